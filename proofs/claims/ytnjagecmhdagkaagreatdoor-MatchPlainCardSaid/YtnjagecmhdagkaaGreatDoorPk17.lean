/-
 Several texts of the proof: BreRdM, BreRdN, BreRdD, BreRdS.
-/
import Derived.Test.YtnjagecmhdagkaaGreatDoorPk16
import Derived.Test.YtnjagecmhdagkaaGreatDoorPk09
import Derived.Test.YtnjagecmhdagkaaGreatDoorPk10
set_option linter.unusedSimpArgs false
set_option linter.unusedVariables false
set_option maxRecDepth 3000
/-
  Patterns: the document's reader in memory.
-/
namespace Go.Proofs.YtnjagecmhdagkaaGreatDoor
open Go.RowKit
def SM (p:Nat→Bool):Array Value:=((List.range 1000).map fun c=>Value.bool (p c)).toArray
theorem SM_size (p:Nat→Bool):(SM p).size=1000:=by simp [SM]
theorem SM_get (p:Nat→Bool) (i:Nat) (h:i < 1000):(SM p).toList[i]?=some (.bool (p i)):=by simp [SM,h]
theorem SM_set (p:Nat→Bool) (n:Nat):(SM p).toList.set n (.bool true)=(SM (orAt p n)).toList:=by
 apply List.ext_getElem?
 intro i
 rw [List.getElem?_set]
 by_cases hi:i < 1000
 ·rw [SM_get _ _ hi,SM_get _ _ hi]
  by_cases e:n=i
  ·subst e
   rw [if_pos rfl,if_pos (by simpa [SM_size] using hi)]
   simp [orAt]
  ·rw [if_neg e]
   have:¬ i=n:=fun k=>e k.symm
   simp [orAt,this]
 ·have h1:(SM p).toList[i]?=none:=List.getElem?_eq_none (by simp [SM_size];omega)
  have h2:(SM (orAt p n)).toList[i]?=none:=List.getElem?_eq_none (by simp [SM_size];omega)
  rw [h1,h2]
  split
  ·rename_i e
   subst e
   rw [if_neg (by simp [SM_size];omega)]
  ·rfl
def rdA (s:List UInt8) (at_ groups many:Int) (p:Nat→Bool) (refs bad:Bool):Array Value :=
 #[.string (tx s),.int .i64 at_,.int .i64 groups,.int .i64 many]++SM p++#[.bool refs,.bool bad]
section
variable (s:List UInt8) (at_ groups many:Int) (p:Nat→Bool) (refs bad:Bool)
theorem rdA_size:(rdA s at_ groups many p refs bad).size=1006:=by simp [rdA,SM_size]
theorem rdA_list:(rdA s at_ groups many p refs bad).toList=.string (tx s)::.int .i64 at_::.int .i64 groups::.int .i64 many::(SM p).toList++[.bool refs,.bool bad]:=by simp [rdA]
theorem rdA_0:(rdA s at_ groups many p refs bad)[0]?=some (.string (tx s)):=by rw [← Array.getElem?_toList,rdA_list];rfl
theorem rdA_1:(rdA s at_ groups many p refs bad)[1]?=some (.int .i64 at_):=by rw [← Array.getElem?_toList,rdA_list];rfl
theorem rdA_2:(rdA s at_ groups many p refs bad)[2]?=some (.int .i64 groups):=by rw [← Array.getElem?_toList,rdA_list];rfl
theorem rdA_3:(rdA s at_ groups many p refs bad)[3]?=some (.int .i64 many):=by rw [← Array.getElem?_toList,rdA_list];rfl
theorem get_tail (l:List Value) (a b c d x y:Value) (j n:Nat) (hl:l.length=n):(a::b::c::d::l++[x,y])[n+4+j]?=[x,y][j]?:=by
 subst hl
 rw [show (a::b::c::d::l++[x,y])=(a::b::c::d::l)++[x,y] from rfl,List.getElem?_append_right (by simp)]
 have e:l.length+4+j - (a::b::c::d::l).length=j:=by simp
 rw [e]
theorem rdA_tail (j:Nat):(rdA s at_ groups many p refs bad)[1000+4+j]?=[Value.bool refs,.bool bad][j]?:=by
 rw [← Array.getElem?_toList,rdA_list]
 exact get_tail (SM p).toList _ _ _ _ _ _ j 1000 (by simp [SM_size])
theorem rdA_1004:(rdA s at_ groups many p refs bad)[1004]?=some (.bool refs):=rdA_tail _ _ _ _ _ _ _ 0
theorem rdA_1005:(rdA s at_ groups many p refs bad)[1005]?=some (.bool bad):=rdA_tail _ _ _ _ _ _ _ 1
theorem rdA_at (n:Nat) (h:n < 1000):(rdA s at_ groups many p refs bad)[4+n]?=some (.bool (p n)):=by
 rw [← Array.getElem?_toList,rdA_list,show 4+n=n+1+1+1+1 by omega]
 simp only [List.cons_append,List.getElem?_cons_succ]
 rw [List.getElem?_append_left (by simp [SM_size];exact h)]
 exact SM_get _ _ h
theorem rdA_set1 (m:Int):(rdA s at_ groups many p refs bad).setIfInBounds 1 (.int .i64 m)=rdA s m groups many p refs bad:=by
 apply Array.toList_inj.1;rw [Array.toList_setIfInBounds,rdA_list,rdA_list];rfl
theorem rdA_set2 (m:Int):(rdA s at_ groups many p refs bad).setIfInBounds 2 (.int .i64 m)=rdA s at_ m many p refs bad:=by
 apply Array.toList_inj.1;rw [Array.toList_setIfInBounds,rdA_list,rdA_list];rfl
theorem rdA_set3 (m:Int):(rdA s at_ groups many p refs bad).setIfInBounds 3 (.int .i64 m)=rdA s at_ groups m p refs bad:=by
 apply Array.toList_inj.1;rw [Array.toList_setIfInBounds,rdA_list,rdA_list];rfl
theorem rdA_setAt (n:Nat) (h:n < 1000):(rdA s at_ groups many p refs bad).setIfInBounds (4+n) (.bool true)=rdA s at_ groups many (orAt p n) refs bad:=by
 apply Array.toList_inj.1
 rw [Array.toList_setIfInBounds,rdA_list,rdA_list,show 4+n=n+1+1+1+1 by omega]
 simp only [List.cons_append,List.set_cons_succ]
 rw [List.set_append_left _ _ (by simp [SM_size];exact h),SM_set]
theorem set_tail (l:List Value) (a b c d x y v:Value) (j n:Nat) (hl:l.length=n):(a::b::c::d::l++[x,y]).set (n+4+j) v=a::b::c::d::l++[x,y].set j v:=by
 subst hl
 rw [show (a::b::c::d::l++[x,y])=(a::b::c::d::l)++[x,y] from rfl,List.set_append_right _ _ (by simp)]
 have e:l.length+4+j - (a::b::c::d::l).length=j:=by simp
 rw [e]
theorem rdA_set1004 (b:Bool):(rdA s at_ groups many p refs bad).setIfInBounds 1004 (.bool b)=rdA s at_ groups many p b bad:=by
 apply Array.toList_inj.1
 rw [Array.toList_setIfInBounds,rdA_list,rdA_list]
 exact set_tail (SM p).toList _ _ _ _ _ _ _ 0 1000 (by simp [SM_size])
theorem rdA_set1005 (b:Bool):(rdA s at_ groups many p refs bad).setIfInBounds 1005 (.bool b)=rdA s at_ groups many p refs b:=by
 apply Array.toList_inj.1
 rw [Array.toList_setIfInBounds,rdA_list,rdA_list]
 exact set_tail (SM p).toList _ _ _ _ _ _ _ 1 1000 (by simp [SM_size])
end
section
variable {w w':World} {g:Nat} {s:List UInt8} {at_ groups many:Int} {p:Nat→Bool} {refs bad:Bool}
def RdAt (w:World) (g:Nat) (s:List UInt8) (at_ groups many:Int) (p:Nat→Bool) (refs bad:Bool):Prop:=blk w g=rdA s at_ groups many p refs bad
theorem RdAt.inh (h:RdAt w g s at_ groups many p refs bad):InHeap g w:=Blk.inHeap h (by rw [rdA_size];omega)
theorem RdAt.cell (h:RdAt w g s at_ groups many p refs bad) (i:Nat):w.cell? ⟨g,i,none⟩=(rdA s at_ groups many p refs bad)[i]?:=Blk.cell h (by rw [rdA_size];omega) i
theorem RdAt.cells (h:RdAt w g s at_ groups many p refs bad):w.cell? ⟨g,0,none⟩=some (.string (tx s))∧w.cell? ⟨g,1,none⟩=some (.int .i64 at_)∧w.cell? ⟨g,2,none⟩=some (.int .i64 groups)∧w.cell? ⟨g,3,none⟩=some (.int .i64 many)∧w.cell? ⟨g,1004,none⟩=some (.bool refs)∧w.cell? ⟨g,1005,none⟩=some (.bool bad) :=
 ⟨(h.cell 0).trans (rdA_0 _ _ _ _ _ _ _),(h.cell 1).trans (rdA_1 _ _ _ _ _ _ _),(h.cell 2).trans (rdA_2 _ _ _ _ _ _ _),(h.cell 3).trans (rdA_3 _ _ _ _ _ _ _),(h.cell 1004).trans (rdA_1004 _ _ _ _ _ _ _),(h.cell 1005).trans (rdA_1005 _ _ _ _ _ _ _)⟩
theorem RdAt.free (h:RdAt w g s at_ groups many p refs bad):∀ k,w.frozen? ⟨g,k,none⟩=false:=fun k=>Blk.free h (by rw [rdA_size];omega) k
theorem RdAt.set1 (h:RdAt w g s at_ groups many p refs bad) (m:Int):RdAt (w.setCell ⟨g,1,none⟩ (.int .i64 m)) g s m groups many p refs bad:=(pa_put h (by rw [rdA_size];omega) 1 _).trans (rdA_set1 _ _ _ _ _ _ _ m)
theorem RdAt.set2 (h:RdAt w g s at_ groups many p refs bad) (m:Int):RdAt (w.setCell ⟨g,2,none⟩ (.int .i64 m)) g s at_ m many p refs bad:=(pa_put h (by rw [rdA_size];omega) 2 _).trans (rdA_set2 _ _ _ _ _ _ _ m)
theorem RdAt.set3 (h:RdAt w g s at_ groups many p refs bad) (m:Int):RdAt (w.setCell ⟨g,3,none⟩ (.int .i64 m)) g s at_ groups m p refs bad:=(pa_put h (by rw [rdA_size];omega) 3 _).trans (rdA_set3 _ _ _ _ _ _ _ m)
theorem RdAt.set1004 (h:RdAt w g s at_ groups many p refs bad) (b:Bool):RdAt (w.setCell ⟨g,1004,none⟩ (.bool b)) g s at_ groups many p b bad:=(pa_put h (by rw [rdA_size];omega) 1004 _).trans (rdA_set1004 _ _ _ _ _ _ _ b)
theorem RdAt.set1005 (h:RdAt w g s at_ groups many p refs bad) (b:Bool):RdAt (w.setCell ⟨g,1005,none⟩ (.bool b)) g s at_ groups many p refs b:=(pa_put h (by rw [rdA_size];omega) 1005 _).trans (rdA_set1005 _ _ _ _ _ _ _ b)
theorem RdAt.setAt (h:RdAt w g s at_ groups many p refs bad) (n:Nat) (hn:n < 1000):RdAt (w.setCell ⟨g,4+n,none⟩ (.bool true)) g s at_ groups many (orAt p n) refs bad:=(pa_put h (by rw [rdA_size];omega) _ _).trans (rdA_setAt _ _ _ _ _ _ _ n hn)
theorem RdAt.alloc (h:RdAt w g s at_ groups many p refs bad) (o:Obj):RdAt (w.alloc o) g s at_ groups many p refs bad:=(blk_alloc_past _ _ _ h.inh).trans h
theorem RdAt.grows (h:RdAt w g s at_ groups many p refs bad) (hg:Grows w w'):RdAt w' g s at_ groups many p refs bad:=by
 have:=h.inh
 obtain ⟨m,rfl⟩:=hg
 exact (blk_more _ _ _ this).trans h
end
theorem ahead_take (t l:List UInt8) (h:t.length≤l.length):((tx (l.take t.length)).toList == (tx t).toList)=ahead t l:=by
 rw [ByteArray.toList_eq,ByteArray.toList_eq,tx_data,tx_data]
 unfold ahead Lib.hasPrefix
 rw [Bool.eq_iff_iff,beq_iff_eq,List.isPrefixOf_iff_prefix,List.prefix_iff_eq_take]
 exact ⟨fun e=>e.symm,fun e=>e.symm⟩
theorem ahead_short {t l:List UInt8} (h:¬ t.length≤l.length):ahead t l=false:=by
 cases hb:ahead t l with
 | false=>rfl
 | true=>exact absurd (ahead_len hb) h
set_option maxHeartbeats 1000000 in
theorem is_any {w:World} {g:Nat} {s:List UInt8} {at_:Nat} {groups many:Int} {p:Nat→Bool} {refs bad:Bool} (h:RdAt w g s (at_:Int) groups many p refs bad) (ha:at_≤s.length) (hl:s.length≤1000) (t:List UInt8) (ht:t.length≤10) (x:ByteArray) (hx:x=tx t) :
  Calls Tryz.prog 36 #[.pointer (some ⟨g,0,none⟩),.string x] w fun e w'=>e=.returned (.bool (ahead t (s.drop at_)))∧Grows w w':=by
 subst hx
 have ig:=h.inh
 obtain ⟨c0,c1,-,-,-,-⟩:=h.cells
 clear h
 by_cases hz:t.length≤s.length - at_
 ·have e1:(t.length:Int)≤(s.length:Int) - (at_:Int):=by omega
  have hx:(tx s).extract at_ (at_+t.length)=tx ((s.drop at_).take t.length):=by rw [tx_mid,Nat.add_sub_cancel_left]
  have hb:=ahead_take t (s.drop at_) (by simpa using hz)
  have e2:(at_:Int)+(t.length:Int)≤(s.length:Int):=by omega
  generalize (s.drop at_).take t.length=u at *
  generalize ahead t (s.drop at_)=b at *
  go_enter Tryz.func36,Tryz.ntmps36
  go_upto_region 1 with fail
  go_quiet (fail)
  go_wp2_with fail
  go_ret
  exact ⟨by simp [hb],by first | exact (Grows.refl _).drewN _ | exact Grows.refl _⟩
 ·have hb:ahead t (s.drop at_)=false:=ahead_short (by simpa using hz)
  have e1:¬(t.length:Int)≤(s.length:Int) - (at_:Int):=by omega
  rw [hb]
  clear hb
  go_enter Tryz.func36,Tryz.ntmps36
  go_upto_region 1 with fail
  go_quiet (fail)
  go_wp2_with fail
  go_ret
  exact ⟨rfl,by first | exact (Grows.refl _).drewN _ | exact Grows.refl _⟩
end Go.Proofs.YtnjagecmhdagkaaGreatDoor
namespace Go.Proofs.YtnjagecmhdagkaaGreatDoor
open Go.RowKit
theorem rowNodeR:RowOf Tryz.prog 91 262:=⟨_,Tryz.underlying91,rfl,by kernel_rfl⟩
theorem zeroNodeR (w:World):(zeroValue 91).run Tryz.prog w=.ok (.agg (ndA 0 0 noSet 0 0 0 (.slice none 0 0))) w:=by kernel_rfl
def bldNdR (x:Array (Nat × Value)):Sem Value:=Instr.build 91 x
theorem bldNdR_eq (x:Array (Nat × Value)):Instr.build 91 x=bldNdR x:=rfl
section
variable (w:World) (g o:Nat) (c:Array Value)
theorem bldR_none:(bldNdR #[]).run Tryz.prog w=.ok (.agg (ndA 0 0 noSet 0 0 0 (.slice none 0 0))) w:=by kernel_rfl
theorem bldR_kind (k:Int):(bldNdR #[(0,.int .i64 k)]).run Tryz.prog w=.ok (.agg (ndA k 0 noSet 0 0 0 (.slice none 0 0))) w:=by kernel_rfl
theorem bldR_byte (k b:Int):(bldNdR #[(0,.int .i64 k),(1,.int .u8 b)]).run Tryz.prog w=.ok (.agg (ndA k b noSet 0 0 0 (.slice none 0 0))) w:=by kernel_rfl
theorem bldR_set (k:Int) (p:Nat→Bool):(bldNdR #[(0,.int .i64 k),(2,.agg (SA p))]).run Tryz.prog w=.ok (.agg (ndA k 0 p 0 0 0 (.slice none 0 0))) w:=by kernel_rfl
theorem bldR_n (k n:Int):(bldNdR #[(0,.int .i64 k),(3,.int .i64 n)]).run Tryz.prog w=.ok (.agg (ndA k 0 noSet n 0 0 (.slice none 0 0))) w:=by kernel_rfl
theorem bldR_star (k n:Int) (a:Option Addr) (l d:Nat):(bldNdR #[(0,.int .i64 k),(5,.int .i64 n),(6,.slice a l d)]).run Tryz.prog w=.ok (.agg (ndA k 0 noSet 0 0 n (.slice a l d))) w:=by kernel_rfl
theorem bldR_times (k m n:Int) (a:Option Addr) (l d:Nat):(bldNdR #[(0,.int .i64 k),(4,.int .i64 m),(5,.int .i64 n),(6,.slice a l d)]).run Tryz.prog w=.ok (.agg (ndA k 0 noSet 0 m n (.slice a l d))) w:=by kernel_rfl
def ldNodeR (x:Value):Sem Value:=Instr.loadAt 91 x
theorem ldNodeR_eq (x:Value):Instr.loadAt 91 x=ldNodeR x:=rfl
theorem loadNodeR:(ldNodeR (.pointer (some ⟨g,o,none⟩))).run Tryz.prog w=loadPart Tryz.prog w 91 g o 262:=rfl
theorem loadNodeR_if:loadPart Tryz.prog w 91 g o 262=if 0 < 262∧o+262≤(blk w g).size then .ok (.agg (span (blk w g) o 262)) w else loadPartOdd Tryz.prog w 91 g o 262:=loadPart_if w _ g o 262 rowNodeR
def stNodeR (x v:Value):Sem Unit:=Instr.storeAt 91 x v
theorem stNodeR_eq (x v:Value):Instr.storeAt 91 x v=stNodeR x v:=rfl
theorem storeNodeR:(stNodeR (.pointer (some ⟨g,o,none⟩)) (.agg c)).run Tryz.prog w=storePart Tryz.prog w 91 g o c:=rfl
theorem storeNodeR_if (h:OneCells c):storePart Tryz.prog w 91 g o c=if 0 < 262∧o+262≤(blk w g).size∧c.size=262 then .ok () (setBlk w g (over (blk w g) o c)) else storePartOdd Tryz.prog w 91 g o c:=storePart_if w _ g o 262 c rowNodeR h
theorem loadVarNodeR (h:(blk w g).size=262):(loadVar 91 ⟨g,0,none⟩).run Tryz.prog w=.ok (.agg (blk w g)) w:=by
 have h1:=loadNodeR_if w g 0
 rw [if_pos (by omega),span_all h] at h1
 have h2:(Instr.loadAt 91 (.pointer (some ⟨g,0,none⟩))).run Tryz.prog w=_:=h1
 simpa [Instr.loadAt,Instr.sureAddr] using h2
end
theorem results_nodeR {fn:Func} {T:Array Value} {w:World} {b:Nat} {c:Array Value} (k:Nat) (h:fn.results=#[.cell k 91]) (hT:T.getD k undef=.pointer (some ⟨b,0,none⟩)) (hb:blk w b=c) (hc:c.size=262):(results fn T).run Tryz.prog w=.ok (.agg c) w:=by
 have:=loadVarNodeR w b (by rw [hb,hc])
 rw [hb] at this
 rw [Array.getD_eq_getD_getElem?] at hT
 simp [results,h,hT,asAddr,this]
attribute [local go_sem ↓] zeroNodeR bldNdR_eq ldNodeR_eq stNodeR_eq
attribute [local go_sem] loadNodeR loadNodeR_if storeNodeR storeNodeR_if ndA_one_slice
set_option maxHeartbeats 1000000 in
theorem rnode_any {w:World} {g:Nat} {s:List UInt8} {at_ groups many:Nat} {p:Nat→Bool} {refs bad:Bool} (h:RdAt w g s (at_:Int) groups many p refs bad) (ha:at_≤1000) (hm:many≤1000) (k:Nat) (hk:k≤1000) (kind byte:Int) (q:Nat→Bool) (n mn mx:Int) (a:Option Addr) (m c:Nat) :
  Calls Tryz.prog 62 #[.pointer (some ⟨g,0,none⟩),.agg (ndA kind byte q n mn mx (.slice a m c)),.int .i64 k] w fun e w'=>e=.returned (.agg (ndA kind byte q n mn mx (.slice a m c)))∧RdAt w' g s ((at_+k:Nat):Int) groups ((many+1:Nat):Int) p refs bad∧Chg (fun b=>b=g) w w':=by
 have ig:=h.inh
 obtain ⟨-,c1,-,c3,-,-⟩:=h.cells
 have ff:=h.free
 have H:=Lib.hid h
 clear h
 go_enter Tryz.func62,Tryz.ntmps62
 go_wp2_with fail
 have H2:=(H.out.set3 ((many:Int)+1)).set1 ((at_:Int)+(k:Int))
 have hc:Chg (fun b=>b=g) w ((w.setCell ⟨g,3,none⟩ (.int .i64 ((many:Int)+1))).setCell ⟨g,1,none⟩ (.int .i64 ((at_:Int)+(k:Int)))):=(chg_cell _ _ _ _).trans (chg_cell _ _ _ _)
 have hz2:((w.setCell ⟨g,3,none⟩ (.int .i64 ((many:Int)+1))).setCell ⟨g,1,none⟩ (.int .i64 ((at_:Int)+(k:Int)))).heap.size=w.heap.size:=by simp
 generalize (w.setCell ⟨g,3,none⟩ (.int .i64 ((many:Int)+1))).setCell ⟨g,1,none⟩ (.int .i64 ((at_:Int)+(k:Int)))=w2 at *
 refine bodyPost_ret (results_nodeR 6 rfl rfl (blk_alloc_at _ _ _ _ (by simp [hz2])) (ndA_size _ _ _ _ _ _ _)) rfl ⟨rfl,?_,hc.trans (Chg.of_grows ?_)⟩
 ·exact (H2.alloc _).alloc _
 ·exact ((Grows.refl _).alloc _).alloc _
end Go.Proofs.YtnjagecmhdagkaaGreatDoor
namespace Go.Proofs.YtnjagecmhdagkaaGreatDoor
open Go.RowKit
attribute [local go_sem] tx_bt
theorem numR_next (d:List UInt8) (j:Nat) (h:j < d.length):numR (d.take (j+1))=min (10*numR (d.take j)+(d[j].toNat - 48)) 1000:=by
 unfold numR
 rw [List.take_add_one,List.getElem?_eq_getElem h,List.foldl_append]
 rfl
theorem numR_le1000 (d:List UInt8):numR d≤1000:=by
 unfold numR
 rcases List.eq_nil_or_concat d with rfl | ⟨u,c,rfl⟩
 ·simp
 ·simp only [List.concat_eq_append,List.foldl_append,List.foldl_cons,List.foldl_nil]
  omega
structure Digs (s:List UInt8) (at_ D:Nat) (d:List UInt8):Prop where
 eq:(s.drop at_).takeWhile isDig=d
 len:d.length=D
 fits:at_+D≤s.length
 dig:∀ j (h:j < d.length),bt s (at_+j)=d[j].toNat∧48≤d[j].toNat∧d[j].toNat≤57
 stop:at_+D < s.length→bt s (at_+D) < 48∨57 < bt s (at_+D)
theorem digs_of (s:List UInt8) (at_:Nat) (h:at_≤s.length):∃ D d,Digs s at_ D d:=by
 have e:=List.takeWhile_append_dropWhile (p:=isDig) (l:=s.drop at_)
 have hd:∀ x ∈ (s.drop at_).takeWhile isDig,isDig x=true:=List.all_eq_true.1 (List.all_takeWhile ..)
 have hr:∀ c r,(s.drop at_).dropWhile isDig=c::r→isDig c=false:=fun c r hc=>by
  have:=List.head?_dropWhile_not isDig (s.drop at_)
  rw [hc] at this
  simpa using this
 generalize hda:(s.drop at_).takeWhile isDig=d at *
 generalize (s.drop at_).dropWhile isDig=r at *
 have hl:(d++r).length=s.length - at_:=by rw [e];simp
 simp at hl
 have hb:∀ j,bt s (at_+j)=bt (d++r) j:=fun j=>by rw [e,bt_drop]
 refine ⟨d.length,d,hda,rfl,by omega,fun j hj=>?_,fun hlt=>?_⟩
 ·have h1:=hd d[j] (List.getElem_mem hj)
  unfold isDig at h1
  simp only [decide_eq_true_eq] at h1
  exact ⟨by rw [hb,bt_append_left _ _ _ hj,bt_get _ _ hj],h1⟩
 ·rw [hb,bt_append_right _ _ _ (Nat.le_refl _),Nat.sub_self]
  cases r with
  | nil=>simp at hl;omega
  | cons c r =>
   have:=hr c r rfl
   unfold isDig at this
   simp only [decide_eq_false_iff_not] at this
   rw [bt_cons_zero]
   omega
set_option maxHeartbeats 2000000 in
theorem rdigits_at {w:World} {g:Nat} {s:List UInt8} {at_ groups many:Nat} {p:Nat→Bool} {refs bad:Bool} (h:RdAt w g s (at_:Int) groups many p refs bad) (hl:s.length≤1000) {D:Nat} {d:List UInt8} (hd:Digs s at_ D d) :
  Calls Tryz.prog 63 #[.pointer (some ⟨g,0,none⟩)] w fun e w'=>e=.returned (.tuple #[.int .i64 (numR d:Nat),.bool (!d.isEmpty)])∧RdAt w' g s ((at_+D:Nat):Int) groups many p refs bad∧Chg (fun b=>b=g) w w':=by
 have hD:=hd.fits
 have HD:=Lib.hid hd
 clear hd
 have H:=Lib.hid h
 clear h
 go_enter Tryz.func63,Tryz.ntmps63
 go_wp2_with fail
 go_loopg [4,5] D (fun q v4 v5 wr=>∃ j:Nat,j≤D∧q+j=D∧v4=.int .i64 (numR (d.take j):Nat)∧v5=.bool (decide (0 < j))∧RdAt wr g s ((at_+j:Nat):Int) groups many p refs bad∧Chg (fun b=>b=g) w wr)
 case atStart=>exact ⟨0,by omega,by omega,rfl,rfl,H.out,Chg.refl _ _⟩
 case round =>
  obtain ⟨j,hj,hq,rfl,rfl,hr,hc⟩:=hrel
  obtain ⟨c0,c1,-,-,-,-⟩:=hr.cells
  have ff:=hr.free
  have ig:=hr.inh
  have HR:=Lib.hid hr
  have HC:=Lib.hid hc
  have HQ:=Lib.hid hq
  clear hr hc hq
  obtain ⟨A,hA⟩:∃ A,at_+j=A:=⟨_,rfl⟩
  rw [hA] at HR c1
  by_cases hlt:j < D
  ·obtain ⟨b1,b2,b3⟩:=HD.out.dig j (by rw [HD.out.len];exact hlt)
   have hn:=numR_next d j (by rw [HD.out.len];exact hlt)
   rw [hA] at b1
   rw [← b1] at b2 b3 hn
   have a1:(A:Int) < (s.length:Int):=by omega
   have a2:A < s.length:=by omega
   obtain ⟨B,hB⟩:∃ B:Nat,bt s A=48+B:=⟨bt s A - 48,by omega⟩
   have HN:=Lib.hid hn
   have hk:=numR_le1000 (d.take j)
   obtain ⟨K,hK⟩:∃ K,numR (d.take j)=K:=⟨_,rfl⟩
   rw [hK] at hk
   have HK:=Lib.hid hK
   have hmin:min ((K:Int)*10+(B:Int)) 1000=((min (10*K+B) 1000:Nat):Int):=by omega
   have x1:(48:Int)≤(bt s A:Int):=by omega
   have x2:(bt s A:Int)≤57:=by omega
   have x3:(bt s A:Int) - 48=(B:Int):=by omega
   have x4:B≤9:=by omega
   have HB:=Lib.hid hB
   clear hn b1 hB
   rw [hK]
   clear hK
   go_upto_region 2 with fail
   go_quiet (fail)
   go_upto_region 3 with fail
   go_quiet (fail)
   go_wp2_with fail
   go_roundg (gk - 1)
   case measure=>have:=HQ.out;omega
   case rel=>exact ⟨j+1,by omega,by have:=HQ.out;omega,by rw [HN.out,HK.out,show bt s A - 48=B by have:=HB.out;omega],by simp,by rw [show ((at_+(j+1):Nat):Int)=(A:Int)+1 by omega];exact (HR.out.grows (by repeat' first | exact Grows.refl _ | refine Grows.drewN ?_ _ | refine Grows.drew ?_)).set1 _,HC.out.trans ((Chg.of_grows (by repeat' first | exact Grows.refl _ | refine Grows.drewN ?_ _ | refine Grows.drew ?_)).trans (chg_cell _ _ _ _))⟩
  ·have hjD:j=D:=by omega
   subst hjD
   have hlen:=HD.out.len
   have htk:d.take j=d:=List.take_of_length_le (by omega)
   rw [htk]
   have he:decide (0 < j)=!d.isEmpty:=by
    rw [← hlen]
    cases d with
    | nil=>rfl
    | cons c d=>simp
   rw [he]
   have HE:=Lib.hid he
   clear he htk hlen
   have hcase:(¬ A < s.length)∨(A < s.length∧bt s A < 48)∨(A < s.length∧57 < bt s A):=by
    by_cases hz:A < s.length
    ·have:=HD.out.stop (by omega)
     rw [hA] at this
     omega
    ·exact .inl hz
   rcases hcase with hz | ⟨hz,x⟩ | ⟨hz,x⟩
   ·have a1:¬(A:Int) < (s.length:Int):=by omega
    go_upto_region 2 with fail
    go_quiet (fail)
    go_wp2_with fail
    refine bodyPost_ret (v:=.tuple #[.int .i64 (numR d:Nat),.bool (!d.isEmpty)]) (by simp [results,Tryz.results63,go_sem]) rfl ⟨rfl,HR.out.grows (by repeat' first | exact Grows.refl _ | refine Grows.drewN ?_ _ | refine Grows.drew ?_),HC.out.trans (Chg.of_grows (by repeat' first | exact Grows.refl _ | refine Grows.drewN ?_ _ | refine Grows.drew ?_))⟩
   ·have a1:(A:Int) < (s.length:Int):=by omega
    have x1:¬(48:Int)≤(bt s A:Int):=by omega
    go_upto_region 2 with fail
    go_quiet (fail)
    go_wp2_with fail
    refine bodyPost_ret (v:=.tuple #[.int .i64 (numR d:Nat),.bool (!d.isEmpty)]) (by simp [results,Tryz.results63,go_sem]) rfl ⟨rfl,HR.out.grows (by repeat' first | exact Grows.refl _ | refine Grows.drewN ?_ _ | refine Grows.drew ?_),HC.out.trans (Chg.of_grows (by repeat' first | exact Grows.refl _ | refine Grows.drewN ?_ _ | refine Grows.drew ?_))⟩
   ·have a1:(A:Int) < (s.length:Int):=by omega
    have x1:(48:Int)≤(bt s A:Int):=by omega
    have x2:¬(bt s A:Int)≤57:=by omega
    go_upto_region 2 with fail
    go_quiet (fail)
    go_wp2_with fail
    refine bodyPost_ret (v:=.tuple #[.int .i64 (numR d:Nat),.bool (!d.isEmpty)]) (by simp [results,Tryz.results63,go_sem]) rfl ⟨rfl,HR.out.grows (by repeat' first | exact Grows.refl _ | refine Grows.drewN ?_ _ | refine Grows.drew ?_),HC.out.trans (Chg.of_grows (by repeat' first | exact Grows.refl _ | refine Grows.drewN ?_ _ | refine Grows.drew ?_))⟩
end Go.Proofs.YtnjagecmhdagkaaGreatDoor
namespace Go.Proofs.YtnjagecmhdagkaaGreatDoor
open Go.RowKit
structure StAt (w:World) (g:Nat) (s:List UInt8) (at_:Nat) (r:RdS) (bad:Bool):Prop where
 rd:RdAt w g s (at_:Int) (r.groups:Nat) (r.many:Nat) r.ended r.refs bad
 left:r.left=s.drop at_
 ale:at_≤s.length
 many:r.many≤at_
 groups:r.groups≤r.many
def Bad (w:World) (g:Nat) (s:List UInt8):Prop:=∃ at_ r,StAt w g s at_ r true
section
variable {w w':World} {g at_:Nat} {s:List UInt8} {r:RdS} {bad:Bool}
theorem StAt.grows (h:StAt w g s at_ r bad) (hg:Grows w w'):StAt w' g s at_ r bad:=⟨h.rd.grows hg,h.left,h.ale,h.many,h.groups⟩
theorem StAt.inh (h:StAt w g s at_ r bad):InHeap g w:=h.rd.inh
theorem StAt.chg {q:Nat→Prop} (h:StAt w g s at_ r bad) (hc:Chg q w w') (hg:¬ q g):StAt w' g s at_ r bad :=
 ⟨(chg_blk hc h.inh hg).trans h.rd,h.left,h.ale,h.many,h.groups⟩
theorem StAt.node (h:StAt w g s at_ r bad) {k:Nat} (hk:1≤k) (hl:k≤r.left.length) (hr:RdAt w' g s ((at_+k:Nat):Int) (r.groups:Nat) ((r.many+1:Nat):Int) r.ended r.refs bad):StAt w' g s (at_+k) (r.node k) bad:=by
 have hle:r.left.length=s.length - at_:=by rw [h.left];simp
 have h1:=h.many
 have h2:=h.groups
 have h3:=h.ale
 exact ⟨hr,by simp only [RdS.node];rw [h.left,List.drop_drop],by omega,by simp only [RdS.node];omega,by simp only [RdS.node];omega⟩
theorem StAt.skip (h:StAt w g s at_ r bad) {k:Nat} (hl:k≤r.left.length) {l:List UInt8} (hd:r.left.drop k=l) (hr:RdAt w' g s ((at_+k:Nat):Int) (r.groups:Nat) (r.many:Nat) r.ended r.refs bad):StAt w' g s (at_+k) { r with left:=l } bad:=by
 have hle:r.left.length=s.length - at_:=by rw [h.left];simp
 have h1:=h.many
 have h2:=h.groups
 have h3:=h.ale
 exact ⟨hr,by simp only [];rw [← hd,h.left,List.drop_drop],by omega,by simp only [];omega,h2⟩
theorem is_at (h:StAt w g s at_ r bad) (hl:s.length≤1000) (t:List UInt8) (ht:t.length≤10) (x:ByteArray) (hx:x=tx t) (b:Bool) (hb:ahead t r.left=b) :
  Calls Tryz.prog 36 #[.pointer (some ⟨g,0,none⟩),.string x] w fun e w'=>e=.returned (.bool b)∧Grows w w':=by
 have:=is_any h.rd h.ale hl t ht x hx
 rw [← h.left,hb] at this
 exact this
theorem node_at (h:StAt w g s at_ r bad) (hl:s.length≤1000) (k:Nat) (hk:1≤k) (hkl:k≤r.left.length) (kind byte:Int) (q:Nat→Bool) (n mn mx:Int) (a:Option Addr) (m c:Nat) :
  Calls Tryz.prog 62 #[.pointer (some ⟨g,0,none⟩),.agg (ndA kind byte q n mn mx (.slice a m c)),.int .i64 k] w fun e w'=>e=.returned (.agg (ndA kind byte q n mn mx (.slice a m c)))∧StAt w' g s (at_+k) (r.node k) bad∧Chg (fun b=>b=g) w w':=by
 have hle:r.left.length=s.length - at_:=by rw [h.left];simp
 have h1:=h.many
 have h3:=h.ale
 exact (rnode_any h.rd (by omega) (by omega) k (by omega) kind byte q n mn mx a m c).mono fun e w' hp=>⟨hp.1,h.node hk hkl hp.2.1,hp.2.2⟩
theorem digits_at (h:StAt w g s at_ r bad) (hl:s.length≤1000) (m:Nat) (b:Bool) (l:List UInt8) (hn:digitsR r.left=(m,b,l)) :
  Calls Tryz.prog 63 #[.pointer (some ⟨g,0,none⟩)] w fun e w'=>e=.returned (.tuple #[.int .i64 m,.bool b])∧(∃ at2,StAt w' g s at2 { r with left:=l } bad)∧Chg (fun b=>b=g) w w':=by
 obtain ⟨D,d,hd⟩:=digs_of s at_ h.ale
 have hD:=hd.eq
 rw [← h.left] at hD
 have e1:numR (r.left.takeWhile isDig)=m:=congrArg (fun x=>x.1) hn
 have e2:(!(r.left.takeWhile isDig).isEmpty)=b:=congrArg (fun x=>x.2.1) hn
 have e3:r.left.dropWhile isDig=l:=congrArg (fun x=>x.2.2) hn
 rw [hD] at e1 e2
 have hle:r.left.length=s.length - at_:=by rw [h.left];simp
 have hdr:r.left.drop D=l:=by
  have:=List.takeWhile_append_dropWhile (p:=isDig) (l:=r.left)
  rw [hD,e3] at this
  rw [← this,← hd.len]
  simp
 have hf:=hd.fits
 refine (rdigits_at h.rd hl hd).mono fun e w' hp=>⟨?_,⟨at_+D,h.skip (by omega) hdr hp.2.1⟩,hp.2.2⟩
 rw [hp.1,e1,e2]
end
def bldSlR (x:Array (Nat × Value)):Sem Value:=Instr.buildSlice 31 1 x
theorem bldSlR_eq (x:Array (Nat × Value)):Instr.buildSlice 31 1 x=bldSlR x:=rfl
theorem bldSlR_run (w:World) (k b:Int) (p:Nat→Bool) (n mn mx:Int) (a:Option Addr) (l d:Nat):(bldSlR #[(0,.agg (ndA k b p n mn mx (.slice a l d)))]).run Tryz.prog w=.ok (.slice (some ⟨w.heap.size,0,none⟩) 1 1) (w.alloc (.cells (ndA k b p n mn mx (.slice a l d)) 91)):=by kernel_rfl
end Go.Proofs.YtnjagecmhdagkaaGreatDoor
