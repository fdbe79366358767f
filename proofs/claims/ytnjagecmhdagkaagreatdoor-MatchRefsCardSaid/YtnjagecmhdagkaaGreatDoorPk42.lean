/-
 Several texts of the proof: BreNodesM, ClsDoes, BreSame, MatDa, MatDb.
-/
import Derived.Test.YtnjagecmhdagkaaGreatDoorPk15
import Derived.Test.YtnjagecmhdagkaaGreatDoorPk11
import Derived.Test.YtnjagecmhdagkaaGreatDoorPk17
import Derived.Test.YtnjagecmhdagkaaGreatDoorPk41
import Derived.Test.YtnjagecmhdagkaaGreatDoorPk34
import Derived.Deep.CutBlock
set_option linter.unusedSimpArgs false
set_option linter.unusedVariables false
/-
  The patterns' laws: what the walk over nodes knows, in memory.
-/
namespace Go.Proofs.YtnjagecmhdagkaaGreatDoor
open Go.RowKit
def wsA (many groups:Int) (p:Nat→Bool) (bad refs:Bool):Array Value :=
 #[.int .i64 many,.int .i64 groups,.bool (p 0),.bool (p 1),.bool (p 2),.bool (p 3),.bool (p 4),.bool (p 5),.bool (p 6),.bool (p 7),.bool (p 8),.bool (p 9),.bool bad,.bool refs]
section
variable (many groups:Int) (p:Nat→Bool) (bad refs:Bool)
set_option maxRecDepth 3000 in
theorem wsA_size:(wsA many groups p bad refs).size=14:=rfl
end
section
variable {w:World} {g:Nat} {many groups:Int} {p:Nat→Bool} {bad refs:Bool}
def WsAt (w:World) (g:Nat) (many groups:Int) (p:Nat→Bool) (bad refs:Bool):Prop:=blk w g=wsA many groups p bad refs
set_option maxRecDepth 3000 in
theorem WsAt.inh (h:WsAt w g many groups p bad refs):InHeap g w:=Blk.inHeap h (by rw [wsA_size];omega)
set_option maxRecDepth 3000 in
theorem WsAt.cell (h:WsAt w g many groups p bad refs) (i:Nat):w.cell? ⟨g,i,none⟩=(wsA many groups p bad refs)[i]?:=Blk.cell h (by rw [wsA_size];omega) i
set_option maxRecDepth 3000 in
theorem WsAt.cells (h:WsAt w g many groups p bad refs):w.cell? ⟨g,0,none⟩=some (.int .i64 many)∧w.cell? ⟨g,1,none⟩=some (.int .i64 groups)∧w.cell? ⟨g,12,none⟩=some (.bool bad)∧w.cell? ⟨g,13,none⟩=some (.bool refs) :=
 ⟨h.cell 0,h.cell 1,h.cell 12,h.cell 13⟩
set_option maxRecDepth 3000 in
theorem WsAt.alloc (h:WsAt w g many groups p bad refs) (o:Obj):WsAt (w.alloc o) g many groups p bad refs :=
 (blk_alloc_past _ _ _ h.inh).trans h
set_option maxRecDepth 3000 in
theorem WsAt.grows {w':World} (h:WsAt w g many groups p bad refs) (hg:Grows w w'):WsAt w' g many groups p bad refs:=by
 have:=h.inh
 obtain ⟨m,rfl⟩:=hg
 exact (blk_more _ _ _ this).trans h
end
structure Nb (wr W:World) (g nb:Nat) (C:Array Value):Prop where
 lt:g < nb
 cells:blk W nb=C
 size:C.size=262
 chg:Chg (fun b=>b=g) wr W
section
variable {wr W W':World} {g nb:Nat} {C:Array Value}
set_option maxRecDepth 3000 in
theorem Nb.inh (h:Nb wr W g nb C):InHeap nb W:=Blk.inHeap h.cells (by rw [h.size];omega)
set_option maxRecDepth 3000 in
theorem Nb.cell (h:Nb wr W g nb C) (j:Nat):W.cell? ⟨nb,j,none⟩=C[j]?:=Blk.cell h.cells (by rw [h.size];omega) j
set_option maxRecDepth 3000 in
theorem Nb.step (h:Nb wr W g nb C) (hc:Chg (fun b=>b=g) W W'):Nb wr W' g nb C :=
 ⟨h.lt,(chg_blk hc h.inh (by have:=h.lt;omega)).trans h.cells,h.size,h.chg.trans hc⟩
set_option maxRecDepth 3000 in
theorem Nb.start (hg:InHeap g wr) (hc:Chg (fun b=>b=g) wr W) (hz:W.heap.size=wr.heap.size) (hs:C.size=262) (t:TypeId):Nb wr (W.alloc (.cells C t)) g wr.heap.size C :=
 ⟨hg,blk_alloc_at _ _ _ _ hz.symm,hs,hc.trans (Chg.of_grows ((Grows.refl _).alloc _))⟩
end
set_option maxRecDepth 3000 in
theorem WsAt.drewN {w:World} {g:Nat} {many groups:Int} {p:Nat→Bool} {bad refs:Bool} (h:WsAt w g many groups p bad refs) (n:Nat):WsAt (w.drewN n) g many groups p bad refs:=h
end Go.Proofs.YtnjagecmhdagkaaGreatDoor
namespace Go.Proofs.YtnjagecmhdagkaaGreatDoor
open Go.RowKit
attribute [local go_sem] tx_bt tx_from SA_getElem
attribute [local go_sem ↓] zero22
def cnt (p:Nat→Bool):Nat→Nat
 | 0=>0
 | j+1=>cnt p j+if p j then 1 else 0
set_option maxRecDepth 3000 in
theorem equal22 (w:World) (p:Nat→Bool):(Op.equalIn 10000 89 (.agg (SA p)) (.agg (SA p))).run Tryz.prog w=.ok true w:=by
 refine run_equalIn_array_same w 9999 89 4 256 (SA p) Tryz.underlying89 Tryz.sizeOf4 fun i hi=>⟨.bool (p i),fun w=>⟨?_,?_⟩⟩
 ·simp [go_sem,hi]
 ·simp [go_sem]
end Go.Proofs.YtnjagecmhdagkaaGreatDoor
namespace Go.Proofs.YtnjagecmhdagkaaGreatDoor
open Go.RowKit
set_option maxRecDepth 3000 in
theorem row22:RowOf Tryz.prog 89 256:=⟨_,Tryz.underlying89,rfl,by kernel_rfl⟩
def ld22 (x:Value):Sem Value:=Instr.loadAt 89 x
set_option maxRecDepth 3000 in
theorem ld22_eq (x:Value):Instr.loadAt 89 x=ld22 x:=rfl
section
variable (w:World) (g o:Nat)
set_option maxRecDepth 3000 in
theorem load22:(ld22 (.pointer (some ⟨g,o,none⟩))).run Tryz.prog w=loadPart Tryz.prog w 89 g o 256:=rfl
set_option maxRecDepth 3000 in
theorem load22_if:loadPart Tryz.prog w 89 g o 256=if 0 < 256∧o+256≤(blk w g).size then .ok (.agg (span (blk w g) o 256)) w else loadPartOdd Tryz.prog w 89 g o 256:=loadPart_if w _ g o 256 row22
end
set_option maxRecDepth 3000 in
theorem node_loadR {w:World} {b o:Nat} {c:Array Value} (hc:c.size=262) (h:∀ j u,c[j]?=some u→w.cell? ⟨b,o+j,none⟩=some u):loadPart Tryz.prog w 91 b o 262=.ok (.agg c) w:=by
 obtain ⟨d,hu,hd,hi⟩:=rowNodeR
 unfold loadPart
 simp only [Instr.loadAt,Instr.sureAddr,Sem.run_bind,Sem.run_pure,Result.andThen_ok]
 exact run_loadVar_cells w b o 91 c.toList d (fun j v hv=>h j v (by rw [← Array.getElem?_toList];exact hv)) hu hd (by rw [hi];simp [hc])
attribute [local go_sem ↓] zeroNode zeroNodeR ldNode_eq stNode_eq ldNodeR_eq stNodeR_eq ld22_eq
attribute [local go_sem] loadNode storeNode storeNode_if loadNodeR storeNodeR storeNodeR_if load22 load22_if equal22
end Go.Proofs.YtnjagecmhdagkaaGreatDoor
namespace Go.Proofs.YtnjagecmhdagkaaGreatDoor
open Go.RowKit
def daC (s:List UInt8) (spent:Nat) (most:Int):Array Value:=#[.string (tx s),.int .i64 spent,.int .i64 most]
set_option maxRecDepth 3000 in
set_option maxHeartbeats 1000000 in
theorem over_anyD (w:World) (sb:Nat) (s:List UInt8) (spent:Nat) (most:Int) (hb:blk w sb=daC s spent most) :
  Calls Tryz.prog 30 #[.pointer (some ⟨sb,0,none⟩)] w fun e w'=>e=.returned (.bool (ovN most spent))∧Grows w w':=by
 have c1:w.cell? ⟨sb,1,none⟩=some (.int .i64 spent):=Blk.cell hb (by simp [daC]) 1
 have c2:w.cell? ⟨sb,2,none⟩=some (.int .i64 most):=Blk.cell hb (by simp [daC]) 2
 have ig:InHeap sb w:=Blk.inHeap hb (by simp [daC])
 clear hb
 by_cases h:0≤most
 ·have e:ovN most spent=decide (most < (spent:Int)):=by unfold ovN;rw [decide_eq_true h,Bool.true_and]
  have E:=Lib.hid e
  rw [e]
  clear e
  go_enter Tryz.func30,Tryz.ntmps30
  go_upto_region 1 with fail
  go_quiet (fail)
  go_wp2_with fail
  go_ret
  exact ⟨rfl,by repeat' first | exact Grows.refl _ | refine Grows.drewN ?_ _ | refine Grows.drew ?_⟩
 ·have hb:decide (0≤most)=false:=decide_eq_false h
  have e:ovN most spent=false:=by unfold ovN;rw [hb,Bool.false_and]
  rw [e]
  clear e
  go_enter Tryz.func30,Tryz.ntmps30
  go_upto_region 1 with fail
  go_quiet (fail)
  go_wp2_with fail
  go_ret
  exact ⟨rfl,by repeat' first | exact Grows.refl _ | refine Grows.drewN ?_ _ | refine Grows.drew ?_⟩
def stC (a:Int) (g:Spn) (v:Value):Array Value:=#[.int .i64 a]++spC g++#[v]
section
variable {a:Int} {g:Spn} {v:Value}
set_option maxRecDepth 3000 in
theorem stC_size (h:g.length=20):(stC a g v).size=22:=by simp [stC,spC_size,h]
set_option maxRecDepth 3000 in
theorem stC_0:(stC a g v)[0]?=some (.int .i64 a):=by
 unfold stC
 rw [Array.getElem?_append_left (by simp;omega),Array.getElem?_append_left (by simp)]
 rfl
set_option maxRecDepth 3000 in
theorem stC_sp (h:g.length=20) {j:Nat} (hj:j < 20):(stC a g v)[1+j]?=(spC g)[j]?:=by
 unfold stC
 rw [Array.getElem?_append_left (by simp [spC_size,h];omega),Array.getElem?_append_right (by simp)]
 simp
set_option maxRecDepth 3000 in
theorem stC_21 (h:g.length=20):(stC a g v)[21]?=some v:=by
 unfold stC
 rw [Array.getElem?_append_right (by simp [spC_size,h])]
 simp [spC_size,h]
set_option maxRecDepth 3000 in
theorem stC_one (hv:v.oneCell'=true):OneCells (stC a g v):=by
 have h1:=spC_one g
 unfold OneCells at h1 ⊢
 rw [Array.all_eq_true_iff_forall_mem] at h1 ⊢
 intro x hx
 simp only [stC,Array.mem_append,List.mem_toArray,List.mem_singleton] at hx
 rcases hx with (rfl | hx) | rfl
 ·rfl
 ·exact h1 x hx
 ·exact hv
end
def StRow (ok:Nat→Prop) (w:World):List St→List Value→Prop
 | [],xs=>xs=[]
 | t::l,xs=>∃ (A:Option Addr) (cap:Nat) (zs:List Value),xs=(stC t.1 t.2.1 (.slice A t.2.2.len cap)).toList++zs∧t.2.1.length=20∧WyAt ok w A cap t.2.2∧StRow ok w l zs
section
variable {ok ok2 q:Nat→Prop} {w w':World} {A:Option Addr} {cap:Nat}
set_option maxRecDepth 3000 in
theorem StRow.chg (hc:Chg q w w') (hp:∀ b,b < w.heap.size→ok b→¬ q b):∀ {l:List St} {xs:List Value},StRow ok w l xs→StRow ok w' l xs
 | [],_,h=>h
 | _::_,_,⟨A,cap,zs,e,h1,h2,h3⟩=>⟨A,cap,zs,e,h1,h2.chg hc hp,h3.chg hc hp⟩
set_option maxRecDepth 3000 in
theorem StRow.mono (ho:∀ b,b < w.heap.size→ok b→ok2 b):∀ {l:List St} {xs:List Value},StRow ok w l xs→StRow ok2 w l xs
 | [],_,h=>h
 | _::_,_,⟨A,cap,zs,e,h1,h2,h3⟩=>⟨A,cap,zs,e,h1,h2.mono ho,h3.mono ho⟩
set_option maxRecDepth 3000 in
theorem StRow.app {m:List St} {ys:List Value} (hm:StRow ok w m ys):∀ {l:List St} {xs:List Value},StRow ok w l xs→StRow ok w (l++m) (xs++ys)
 | [],xs,h=>by cases h;exact hm
 | t::l,xs,⟨A,cap,zs,e,h1,h2,h3⟩=>⟨A,cap,zs++ys,by rw [e,List.append_assoc],h1,h2,StRow.app hm h3⟩
set_option maxRecDepth 3000 in
theorem StRow.one {t:St} (h1:t.2.1.length=20) (h2:WyAt ok w A cap t.2.2):StRow ok w [t] (stC t.1 t.2.1 (.slice A t.2.2.len cap)).toList:=⟨A,cap,[],by simp,h1,h2,rfl⟩
set_option maxRecDepth 3000 in
theorem StRow.at {t:St} {c:List St}:∀ {a:List St} {xs:List Value},StRow ok w (a++t::c) xs→∃ (A:Option Addr) (cap:Nat) (ys zs:List Value),xs=ys++((stC t.1 t.2.1 (.slice A t.2.2.len cap)).toList++zs)∧ys.length=a.length*22∧t.2.1.length=20∧WyAt ok w A cap t.2.2∧StRow ok w a ys∧StRow ok w c zs
 | [],xs,⟨A,cap,zs,e,h1,h2,h3⟩=>⟨A,cap,[],zs,by rw [e];rfl,by simp,h1,h2,rfl,h3⟩
 | u::a,xs,⟨A0,cap0,zs0,e,g1,g2,g3⟩=>by
  obtain ⟨A,cap,ys,zs,e2,k1,k2,k3,k4,k5⟩:=StRow.at (a:=a) g3
  refine ⟨A,cap,(stC u.1 u.2.1 (.slice A0 u.2.2.len cap0)).toList++ys,zs,by rw [e,e2,List.append_assoc],?_,k2,k3,⟨A0,cap0,ys,rfl,g1,g2,k4⟩,k5⟩
  rw [List.length_append,Array.length_toList,stC_size g1,k1,List.length_cons]
  omega
set_option maxRecDepth 3000 in
theorem StRow.len:∀ {l:List St} {xs:List Value},StRow ok w l xs→xs.length=l.length*22
 | [],xs,h=>by cases h;rfl
 | t::l,xs,⟨A,cap,zs,e,h1,h2,h3⟩=>by
  rw [e,List.length_append,Array.length_toList,stC_size h1,StRow.len h3,List.length_cons]
  omega
end
def SsAt (ok:Nat→Prop) (w:World) (v:Value) (L:List St):Prop:=∃ (A:Option Addr) (cap:Nat) (xs:List Value),v=.slice A L.length cap∧SlZ 22 ok w A cap L.length xs∧StRow (fun b=>ok b∧∀ a,A=some a→b≠a.block) w L xs
section
variable {ok ok2 q:Nat→Prop} {w w':World} {v:Value} {L:List St}
set_option maxRecDepth 3000 in
theorem SsAt.chg (h:SsAt ok w v L) (hc:Chg q w w') (hp:∀ b,b < w.heap.size→ok b→¬ q b):SsAt ok w' v L:=by
 obtain ⟨A,cap,xs,e,h1,h2⟩:=h
 exact ⟨A,cap,xs,e,h1.chg hc hp,h2.chg hc fun b hb ho=>hp b hb ho.1⟩
set_option maxRecDepth 3000 in
theorem SsAt.grows (h:SsAt ok w v L) (hg:Grows w w'):SsAt ok w' v L:=h.chg (Chg.of_grows (p:=fun _=>False) hg) fun _ _ _ h=>h
set_option maxRecDepth 3000 in
theorem SsAt.mono (h:SsAt ok w v L) (ho:∀ b,b < w.heap.size→ok b→ok2 b):SsAt ok2 w v L:=by
 obtain ⟨A,cap,xs,e,h1,h2⟩:=h
 exact ⟨A,cap,xs,e,h1.mono ho,h2.mono fun b hb ho2=>⟨ho b hb ho2.1,ho2.2⟩⟩
set_option maxRecDepth 3000 in
theorem SsAt.nil (ok:Nat→Prop) (w:World):SsAt ok w (.slice none 0 0) []:=⟨none,0,[],rfl,SlZ.zero 22 ok w,rfl⟩
structure StNth (ok:Nat→Prop) (w:World) (b o:Nat) (t:St) (A:Option Addr) (cap:Nat):Prop where
 len:t.2.1.length=20
 c0:w.cell? ⟨b,o,none⟩=some (.int .i64 t.1)
 sp:∀ j u,(spC t.2.1)[j]?=some u→w.cell? ⟨b,o+1+j,none⟩=some u
 c21:w.cell? ⟨b,o+21,none⟩=some (.slice A t.2.2.len cap)
 wy:WyAt ok w A cap t.2.2
set_option maxRecDepth 3000 in
theorem SsAt.form (h:SsAt ok w v L) (hp:0 < L.length):∃ b o cap,v=.slice (some ⟨b,o,none⟩) L.length cap∧InHeap b w∧ok b∧L.length≤cap∧cap≤9223372036854775807:=by
 obtain ⟨A,cap,xs,e,h1,h2⟩:=h
 obtain ⟨b,o,e2,hb,_⟩:=h1.rd.2 hp
 exact ⟨b,o,cap,by rw [e,e2],hb,h1.ok hp _ e2,h1.le,h1.cap63⟩
set_option maxRecDepth 3000 in
theorem SsAt.nth {b o n cap:Nat} {a c:List St} {t:St} (h:SsAt ok w (.slice (some ⟨b,o,none⟩) n cap) L) (e:L=a++t::c):∃ A cp,StNth (fun x=>ok x∧x≠b) w b (o+a.length*22) t A cp:=by
 obtain ⟨A,cap2,xs,e2,h1,h2⟩:=h
 injection e2 with e2 e3 e4
 subst e2
 rw [e] at h2
 obtain ⟨A,cp,ys,zs,k1,k2,k3,k4,k5,k6⟩:=h2.at
 obtain ⟨b',o',q1,q2,q3⟩:=h1.rd.2 (by rw [e];simp;omega)
 cases q1
 have hz:(stC t.1 t.2.1 (.slice A t.2.2.len cp)).toList.length=22:=by rw [Array.length_toList,stC_size k3]
 have hc:∀ j u,(stC t.1 t.2.1 (.slice A t.2.2.len cp))[j]?=some u→w.cell? ⟨b,o+(a.length*22+j),none⟩=some u:=fun j u hu=>by
  have hj:j < 22:=by
   have:=(Array.getElem?_eq_some_iff.1 hu).1
   rwa [stC_size k3] at this
  refine q3 _ _ ?_
  rw [k1,← k2,List.getElem?_append_right (Nat.le_add_right _ _),Nat.add_sub_cancel_left,List.getElem?_append_left (by rw [hz];exact hj),Array.getElem?_toList]
  exact hu
 refine ⟨A,cp,k3,by have:=hc 0 _ stC_0;rwa [Nat.add_zero] at this,fun j u hu=>?_,by have:=hc 21 _ (stC_21 k3);rwa [← Nat.add_assoc] at this,k4.mono fun x _ hx=>⟨hx.1,hx.2 _ rfl⟩⟩
 have hj:j < 20:=by
  have:=(Array.getElem?_eq_some_iff.1 hu).1
  rw [spC_size,k3] at this
  exact this
 have:=hc (1+j) u (by rw [stC_sp k3 hj];exact hu)
 rwa [← Nat.add_assoc,← Nat.add_assoc] at this
end
section
variable {ok ok2 q:Nat→Prop} {w w':World} {b o:Nat} {t:St} {A:Option Addr} {cap:Nat}
set_option maxRecDepth 3000 in
theorem StNth.inh (h:StNth ok w b o t A cap):InHeap b w:=World.block_lt_of_cell? _ _ h.c0
set_option maxRecDepth 3000 in
theorem StNth.chg (h:StNth ok w b o t A cap) (hc:Chg q w w') (hb:¬ q b) (hp:∀ b,b < w.heap.size→ok b→¬ q b):StNth ok w' b o t A cap :=
 ⟨h.len,cellC h.c0 hc hb,fun j u hu=>cellC (h.sp j u hu) hc hb,cellC h.c21 hc hb,h.wy.chg hc hp⟩
set_option maxRecDepth 3000 in
theorem StNth.grows (h:StNth ok w b o t A cap) (hg:Grows w w'):StNth ok w' b o t A cap:=h.chg (Chg.of_grows (p:=fun _=>False) hg) (fun h=>h) fun _ _ _ h=>h
end
set_option maxRecDepth 3000 in
theorem elemSt:ElemOf Tryz.prog 83 87 22 192:=elemOf_of Tryz.underlying83 (by kernel_rfl) (by kernel_rfl) (z:=.agg (stC 0 spZero (.slice none 0 0))) (by kernel_rfl) (by kernel_rfl) (by decide) (by decide)
set_option maxRecDepth 3000 in
theorem elemWyR:ElemOf Tryz.prog 85 130 2 32:=elemOf_of Tryz.underlying85 (by kernel_rfl) (by kernel_rfl) (z:=.agg #[.int .i64 0,.slice none 0 0]) (by kernel_rfl) rfl (by decide) (by decide)
set_option maxRecDepth 3000 in
theorem bldSt_lit (g0 g1 g2 g3 g4 g5 g6 g7 g8 g9 g10 g11 g12 g13 g14 g15 g16 g17 g18 g19:Int) (a:Int) (w:World):(Instr.build 87 #[(0,.int .i64 a),(1,spV [g0,g1,g2,g3,g4,g5,g6,g7,g8,g9,g10,g11,g12,g13,g14,g15,g16,g17,g18,g19])]).run Tryz.prog w=.ok (.agg (stC a [g0,g1,g2,g3,g4,g5,g6,g7,g8,g9,g10,g11,g12,g13,g14,g15,g16,g17,g18,g19] (.slice none 0 0))) w:=by kernel_rfl
set_option maxRecDepth 3000 in
theorem bldSt_lit3 (g0 g1 g2 g3 g4 g5 g6 g7 g8 g9 g10 g11 g12 g13 g14 g15 g16 g17 g18 g19:Int) (a:Int) (A:Option Addr) (n c:Nat) (w:World):(Instr.build 87 #[(0,.int .i64 a),(1,spV [g0,g1,g2,g3,g4,g5,g6,g7,g8,g9,g10,g11,g12,g13,g14,g15,g16,g17,g18,g19]),(2,.slice A n c)]).run Tryz.prog w=.ok (.agg (stC a [g0,g1,g2,g3,g4,g5,g6,g7,g8,g9,g10,g11,g12,g13,g14,g15,g16,g17,g18,g19] (.slice A n c))) w:=by kernel_rfl
set_option maxRecDepth 3000 in
theorem bldSt_raw (g:Spn) (hg:g.length=20) (a:Int) (w:World):(Instr.build 87 #[(0,.int .i64 a),(1,spV g)]).run Tryz.prog w=.ok (.agg (stC a g (.slice none 0 0))) w:=by
 match g,hg with
 | [g0,g1,g2,g3,g4,g5,g6,g7,g8,g9,g10,g11,g12,g13,g14,g15,g16,g17,g18,g19],_=>exact bldSt_lit g0 g1 g2 g3 g4 g5 g6 g7 g8 g9 g10 g11 g12 g13 g14 g15 g16 g17 g18 g19 a w
set_option maxRecDepth 3000 in
theorem bldSt_raw3 (g:Spn) (hg:g.length=20) (a:Int) (A:Option Addr) (n c:Nat) (w:World):(Instr.build 87 #[(0,.int .i64 a),(1,spV g),(2,.slice A n c)]).run Tryz.prog w=.ok (.agg (stC a g (.slice A n c))) w:=by
 match g,hg with
 | [g0,g1,g2,g3,g4,g5,g6,g7,g8,g9,g10,g11,g12,g13,g14,g15,g16,g17,g18,g19],_=>exact bldSt_lit3 g0 g1 g2 g3 g4 g5 g6 g7 g8 g9 g10 g11 g12 g13 g14 g15 g16 g17 g18 g19 a A n c w
set_option maxRecDepth 3000 in
theorem bldSlSt_lit (g0 g1 g2 g3 g4 g5 g6 g7 g8 g9 g10 g11 g12 g13 g14 g15 g16 g17 g18 g19:Int) (a:Int) (A:Option Addr) (n c:Nat) (w:World):(Instr.buildSlice 83 1 #[(0,.agg (stC a [g0,g1,g2,g3,g4,g5,g6,g7,g8,g9,g10,g11,g12,g13,g14,g15,g16,g17,g18,g19] (.slice A n c)))]).run Tryz.prog w=.ok (.slice (some ⟨w.heap.size,0,none⟩) 1 1) (w.alloc (.cells (stC a [g0,g1,g2,g3,g4,g5,g6,g7,g8,g9,g10,g11,g12,g13,g14,g15,g16,g17,g18,g19] (.slice A n c)) 87)):=by kernel_rfl
set_option maxRecDepth 3000 in
theorem bldSlSt_raw (g:Spn) (hg:g.length=20) (a:Int) (A:Option Addr) (n c:Nat) (w:World):(Instr.buildSlice 83 1 #[(0,.agg (stC a g (.slice A n c)))]).run Tryz.prog w=.ok (.slice (some ⟨w.heap.size,0,none⟩) 1 1) (w.alloc (.cells (stC a g (.slice A n c)) 87)):=by
 match g,hg with
 | [g0,g1,g2,g3,g4,g5,g6,g7,g8,g9,g10,g11,g12,g13,g14,g15,g16,g17,g18,g19],_=>exact bldSlSt_lit g0 g1 g2 g3 g4 g5 g6 g7 g8 g9 g10 g11 g12 g13 g14 g15 g16 g17 g18 g19 a A n c w
end Go.Proofs.YtnjagecmhdagkaaGreatDoor
namespace Go.Proofs.YtnjagecmhdagkaaGreatDoor
open Go.RowKit
def oneL (x:NdV) (s:List UInt8) (a:Nat) (g:Spn):List St:=match oneV x s a g with
 | none=>[]
 | some m=>[(a+m,g,.cons m .nil .nil)]
def bldSt (x:Array (Nat × Value)):Sem Value:=Instr.build 87 x
set_option maxRecDepth 3000 in
theorem bldSt_eq (x:Array (Nat × Value)):Instr.build 87 x=bldSt x:=rfl
set_option maxRecDepth 3000 in
theorem bldSt_two (g:Spn) (hg:g.length=20) (a:Int) (w:World):(bldSt #[(0,.int .i64 a),(1,spV g)]).run Tryz.prog w=.ok (.agg (stC a g (.slice none 0 0))) w:=bldSt_raw g hg a w
set_option maxRecDepth 3000 in
theorem bldSt_three (g:Spn) (hg:g.length=20) (a:Int) (A:Option Addr) (n c:Nat) (w:World):(bldSt #[(0,.int .i64 a),(1,spV g),(2,.slice A n c)]).run Tryz.prog w=.ok (.agg (stC a g (.slice A n c))) w:=bldSt_raw3 g hg a A n c w
def bldSlSt (x:Array (Nat × Value)):Sem Value:=Instr.buildSlice 83 1 x
set_option maxRecDepth 3000 in
theorem bldSlSt_eq (x:Array (Nat × Value)):Instr.buildSlice 83 1 x=bldSlSt x:=rfl
set_option maxRecDepth 3000 in
theorem bldSlSt_run (g:Spn) (hg:g.length=20) (a:Int) (A:Option Addr) (n c:Nat) (w:World):(bldSlSt #[(0,.agg (stC a g (.slice A n c)))]).run Tryz.prog w=.ok (.slice (some ⟨w.heap.size,0,none⟩) 1 1) (w.alloc (.cells (stC a g (.slice A n c)) 87)):=bldSlSt_raw g hg a A n c w
def bldSlWyR (x:Array (Nat × Value)):Sem Value:=Instr.buildSlice 85 1 x
set_option maxRecDepth 3000 in
theorem bldSlWyR_eq (x:Array (Nat × Value)):Instr.buildSlice 85 1 x=bldSlWyR x:=rfl
set_option maxRecDepth 3000 in
theorem bldSlWyR_run (w:World) (l:Int) (a:Option Addr) (n c:Nat):(bldSlWyR #[(0,.agg #[.int .i64 l,.slice a n c])]).run Tryz.prog w=.ok (.slice (some ⟨w.heap.size,0,none⟩) 1 1) (w.alloc (.cells #[.int .i64 l,.slice a n c] 130)):=by kernel_rfl
set_option maxRecDepth 3000 in
theorem daC_spent (s:List UInt8) (n:Nat) (most m:Int):(daC s n most).setIfInBounds 1 (.int .i64 m)=#[.string (tx s),.int .i64 m,.int .i64 most]:=rfl
set_option maxRecDepth 3000 in
theorem wy_blk {ok:Nat→Prop} {w:World} {b l:Nat} {A:Option Addr} {c:Nat} {k:Wy} (hb:blk w b=#[.int .i64 l,.slice A k.len c]) (hk:WyAt ok w A c k) (hl:l≤100000) (ho:ok b):WyAt ok w (some ⟨b,0,none⟩) 1 (.cons l k .nil):=by
 obtain ⟨ys,h1,h2⟩:=hk
 refine ⟨[.int .i64 l,.slice A k.len c],⟨rd_blk (n:=1) (size:=2) hb rfl (by simp),(fun e=>by cases e),by simp [Wy.len],by omega,fun _ a e=>by cases e;exact ho⟩,A,c,ys,[],rfl,h1,h2,rfl,hl⟩
set_option maxRecDepth 3000 in
theorem st_blk {ok:Nat→Prop} {w:World} {b:Nat} {t:St} {A:Option Addr} {c:Nat} (hb:blk w b=stC t.1 t.2.1 (.slice A t.2.2.len c)) (hg:t.2.1.length=20) (hw:WyAt (fun x=>ok x∧x≠b) w A c t.2.2) (ho:ok b):SsAt ok w (.slice (some ⟨b,0,none⟩) 1 1) [t] :=
 ⟨some ⟨b,0,none⟩,1,(stC t.1 t.2.1 (.slice A t.2.2.len c)).toList,rfl,⟨rd_blk (n:=1) (size:=22) hb (by rw [stC_size hg]) (by rw [stC_size hg];decide),(fun e=>by cases e),Nat.le_refl _,by omega,fun _ a e=>by cases e;exact ho⟩,StRow.one hg (hw.mono fun x _ hx=>⟨hx.1,fun a e=>by cases e;exact hx.2⟩)⟩
attribute [local go_sem ↓] zeroNodeR ldNodeR_eq stNodeR_eq ldSp_eq stSp_eq zeroSp bldSt_eq bldSlSt_eq bldSlWyR_eq
attribute [local go_sem] loadNodeR loadNodeR_if storeNodeR storeNodeR_if ndA_one_slice loadSp loadSp_if storeSp storeSp_if spC_one tx_bt bldSt_two bldSt_three bldSlSt_run bldSlWyR_run
set_option maxRecDepth 100000 in
set_option maxHeartbeats 4000000 in
theorem one_anyD (x:NdV) (K:Option Addr) (kl kc:Nat) (s:List UInt8) (a:Nat) (g:Spn) (sb n:Nat) (most:Int) (w:World) (hsb:blk w sb=daC s n most) (hg:SpIn s.length g) (ha:a≤s.length) (hn:x.kind=6→x.n < 10) (hs:s.length≤60000) (hn9:n≤1000000000) :
  Calls Tryz.prog 83 #[.pointer (some ⟨sb,0,none⟩),.agg (ndC x (.slice K kl kc)),.int .i64 a,spV g] w fun e w'=>∃ v,e=.returned v∧SsAt (fun b=>w.heap.size≤b) w' v (oneL x s a g)∧blk w' sb=daC s (n+1) most∧Chg (fun b=>b=sb) w w':=by
 have hgl:=hg.len
 have hsz:(spC g).size=20:=by rw [spC_size];exact hgl
 have isb:sb < w.heap.size:=Blk.inHeap hsb (by simp [daC])
 obtain ⟨R,hR⟩:∃ R,oneI x s a g=R:=⟨_,rfl⟩
 have HR:=Lib.hid hR
 have HG:=Lib.hid hg
 have HN:=Lib.hid hn
 clear hR hg hn
 go_enter Tryz.func83,Tryz.ntmps83
 go_upto_region 1 with fail
 have HT:=Lib.hid (TwoAt.start w (ndC x (.slice K kl kc)) (spC g) 91 35)
 generalize (w.alloc (Obj.cells (ndC x (Value.slice K kl kc)) 91)).alloc (Obj.cells (spC g) 35)=w2 at *
 have hsb2:blk w2 sb=daC s n most:=blkG hsb (by simp [daC]) HT.out.grows
 have m1:w2.cell? ⟨sb,1,none⟩=some (.int .i64 n):=Blk.cell hsb2 (by simp [daC]) 1
 have ib:InHeap sb w2:=Blk.inHeap hsb2 (by simp [daC])
 have fb:w2.frozen? ⟨sb,1,none⟩=false:=Blk.free hsb2 (by simp [daC]) 1
 go_upto_region 2 with fail
 have hT3:blk (w2.setCell ⟨sb,1,none⟩ (.int .i64 ((n:Int)+1))) sb=daC s (n+1) most:=(pa_put hsb2 (by simp [daC]) 1 _).trans (daC_spent s n most _)
 have hC3:Chg (fun b=>b=sb) w2 (w2.setCell ⟨sb,1,none⟩ (.int .i64 ((n:Int)+1))):=chg_cell _ _ _ _
 generalize w2.setCell ⟨sb,1,none⟩ (.int .i64 ((n:Int)+1))=w3 at *
 have hz2:=HT.out.size
 have hbx:blk w3 w.heap.size=ndC x (.slice K kl kc):=(chg_blk hC3 (by omega) (by omega)).trans HT.out.fst
 have hbg:blk w3 (w.heap.size+1)=spC g:=(chg_blk hC3 (by omega) (by omega)).trans HT.out.snd
 have hsb3:blk w3 sb=#[.string (tx s),.int .i64 ((n:Int)+1),.int .i64 most]:=hT3
 have pz:0 < (ndC x (.slice K kl kc)).size:=by simp [ndA_size]
 have c0:=(Blk.cell hbx pz 0).trans (ndA_0 _ _ _ _ _ _ _)
 have c1:=(Blk.cell hbx pz 1).trans (ndA_1 _ _ _ _ _ _ _)
 have c258:=(Blk.cell hbx pz 258).trans (ndA_258 _ _ _ _ _ _ _)
 have cs:∀ c,c < 256→w3.cell? ⟨w.heap.size,2+c,none⟩=some (.bool (x.set c)):=fun c hc=>(Blk.cell hbx pz (2+c)).trans (ndA_set _ _ _ _ _ _ _ c hc)
 have cg:∀ k,k < 20→w3.cell? ⟨w.heap.size+1,k,none⟩=some (.int .i64 (g.getD k 0)):=fun k hk=>(Blk.cell hbg (by omega) k).trans (spC_get (by omega))
 have m0:w3.cell? ⟨sb,0,none⟩=some (.string (tx s)):=Blk.cell hsb3 (by simp) 0
 have ib3:InHeap sb w3:=Blk.inHeap hsb3 (by simp)
 have CS:=Lib.hid cs
 have CG:=Lib.hid cg
 have HBG:=Lib.hid hbg
 have HSB:=Lib.hid hT3
 have HC3:=Lib.hid ((Chg.of_grows (p:=fun b=>b=sb) HT.out.grows).trans hC3)
 have hz3:w.heap.size≤w3.heap.size:=by have:=hC3.size;omega
 clear cs cg pz hbx hbg hsb3 hT3 hC3 hsb2 m1 ib fb HT hz2 hsb
 go_upto_block 0 with fail
 go_cut [9] (fun v9 wx=>v9=.int .i64 R∧Grows w3 wx)
 case first =>
  by_cases h4:x.kind=4
  ·have b4:((x.kind:Int) == 4)=true:=by simp;omega
   by_cases h0:a=0
   ·have e0:((a:Int) == 0)=true:=by simp;omega
    have hR:R=0:=by rw [← HR.out];exact oneI_some (by unfold oneV;rw [if_pos h4,if_pos h0])
    subst hR
    clear HR h4 h0
    go_wp2_with fail
    go_meet
    exact ⟨rfl,Grows.refl _⟩
   ·have e0:((a:Int) == 0)=false:=by simp;omega
    have hR:R=-1:=by rw [← HR.out];exact oneI_none (by unfold oneV;rw [if_pos h4,if_neg h0])
    subst hR
    clear HR h4 h0
    go_wp2_with fail
    go_meet
    exact ⟨rfl,Grows.refl _⟩
  have b4:((x.kind:Int) == 4)=false:=by simp;omega
  by_cases h5:x.kind=5
  ·have b5:((x.kind:Int) == 5)=true:=by simp;omega
   by_cases h0:a=s.length
   ·have e0:((a:Int) == (s.length:Int))=true:=by simp;omega
    have hR:R=0:=by rw [← HR.out];exact oneI_some (by unfold oneV;rw [if_neg h4,if_pos h5,if_pos h0])
    subst hR
    clear HR h4 h5 h0
    go_wp2_with fail
    go_meet
    exact ⟨rfl,Grows.refl _⟩
   ·have e0:((a:Int) == (s.length:Int))=false:=by simp;omega
    have hR:R=-1:=by rw [← HR.out];exact oneI_none (by unfold oneV;rw [if_neg h4,if_pos h5,if_neg h0])
    subst hR
    clear HR h4 h5 h0
    go_wp2_with fail
    go_meet
    exact ⟨rfl,Grows.refl _⟩
  have b5:((x.kind:Int) == 5)=false:=by simp;omega
  by_cases h6:x.kind=6
  ·have b6:((x.kind:Int) == 6)=true:=by simp;omega
   have hnx:=HN.out h6
   have hlo:=HG.out.lo x.n hnx
   have g0:w3.cell? ⟨w.heap.size+1,x.n*2,none⟩=some (.int .i64 (spA g x.n)):=by rw [CG.out _ (by omega),Nat.mul_comm];rfl
   have g1:w3.cell? ⟨w.heap.size+1,x.n*2+1,none⟩=some (.int .i64 (spB g x.n)):=by rw [CG.out _ (by omega),Nat.mul_comm];rfl
   obtain ⟨F,hF⟩:∃ F,spA g x.n=F:=⟨_,rfl⟩
   obtain ⟨T,hT⟩:∃ T,spB g x.n=T:=⟨_,rfl⟩
   rw [hF,hT] at hlo
   rw [hF] at g0
   rw [hT] at g1
   have hV:oneV x s a g=if 0≤F∧T - F≤(s.length:Int) - a∧(s.drop F.toNat).take (T - F).toNat=(s.drop a).take (T - F).toNat then some (T - F).toNat else none:=by
    unfold oneV
    rw [if_neg h4,if_neg h5,if_pos h6,hF,hT]
   have HV:=Lib.hid hV
   have HH:=Lib.hid hlo
   have hgx:x.n*2+1 < 20:=by omega
   have hT6:T≤60000:=by omega
   have hFm:-1≤F:=hlo.1
   have hFT:F≤T:=hlo.2.1
   have hTs:T≤(s.length:Int):=hlo.2.2
   clear hV hlo hF hT h4 h5
   go_upto_region 13 with fail
   clear b4 b5 b6 h6
   by_cases hF0:0≤F
   ·obtain ⟨f,rfl⟩:∃ f:Nat,F=f:=⟨F.toNat,by omega⟩
    obtain ⟨t,rfl⟩:∃ f:Nat,T=f:=⟨T.toNat,by omega⟩
    by_cases hfit:(t:Int) - f≤(s.length:Int) - a
    ·obtain ⟨d,hd⟩:∃ d,t=f+d:=⟨t - f,by omega⟩
     have eT:(t:Int) - f=d:=by omega
     have eTn:((t:Int) - f).toNat=d:=by omega
     have hV2:oneV x s a g=if (s.drop f).take d=(s.drop a).take d then some d else none:=by
      rw [HV.out,eTn]
      simp only [Int.toNat_natCast,hF0,hfit,true_and]
     have eA:(a:Int)+t - f=((a+d:Nat):Int):=by omega
     have htl:t≤s.length:=by omega
     have hft:f≤t:=by omega
     have had:a+d≤s.length:=by omega
     have hdi:(d:Int)≤(s.length:Int) - a:=by omega
     have HV2:=Lib.hid hV2
     clear hV2 HV eTn hd hTs hFm hFT HH hT6 hfit
     have e1:(tx s).extract f t=tx ((s.drop f).take d):=by rw [tx_mid,show t - f=d by omega]
     have e2:(tx s).extract a (a+d)=tx ((s.drop a).take d):=by rw [tx_mid,Nat.add_sub_cancel_left]
     have E1:=Lib.hid e1
     have E2:=Lib.hid e2
     clear e1 e2
     by_cases hsame:(s.drop f).take d=(s.drop a).take d
     ·have hcmp:(((tx s).extract a (a+d)).toList == ((tx s).extract f t).toList)=true:=str_eq (by rw [E1.out,E2.out,hsame])
      have hR:R=d:=by rw [← HR.out];exact oneI_some (by rw [HV2.out,if_pos hsame])
      subst hR
      clear hsame HR
      go_quiet (fail)
      go_wp2_with fail
      go_quiet (fail)
      go_wp2_with fail
      go_meet
      exact ⟨rfl,by repeat' first | exact Grows.refl _ | refine Grows.drewN ?_ _ | refine Grows.drew ?_⟩
     ·have hcmp:(((tx s).extract a (a+d)).toList == ((tx s).extract f t).toList)=false:=str_ne (by rw [E1.out,E2.out];exact fun e=>hsame (tx_inj e).symm)
      have hR:R=-1:=by rw [← HR.out];exact oneI_none (by rw [HV2.out,if_neg hsame])
      subst hR
      clear hsame HR
      go_quiet (fail)
      go_wp2_with fail
      go_quiet (fail)
      go_wp2_with fail
      go_meet
      exact ⟨rfl,by repeat' first | exact Grows.refl _ | refine Grows.drewN ?_ _ | refine Grows.drew ?_⟩
    ·have hR:R=-1:=by rw [← HR.out];exact oneI_none (by rw [HV.out,if_neg fun h=>hfit h.2.1])
     have hfb:decide ((t:Int) - f≤(s.length:Int) - a)=false:=decide_eq_false hfit
     subst hR
     go_quiet (fail)
     go_wp2_with fail
     go_quiet (fail)
     go_wp2_with fail
     go_meet
     exact ⟨rfl,by repeat' first | exact Grows.refl _ | refine Grows.drewN ?_ _ | refine Grows.drew ?_⟩
   ·have hR:R=-1:=by rw [← HR.out];exact oneI_none (by rw [HV.out,if_neg fun h=>hF0 h.1])
    have hfb:decide (0≤F)=false:=decide_eq_false hF0
    subst hR
    go_quiet (fail)
    go_wp2_with fail
    go_quiet (fail)
    go_wp2_with fail
    go_meet
    exact ⟨rfl,by repeat' first | exact Grows.refl _ | refine Grows.drewN ?_ _ | refine Grows.drew ?_⟩
  have b6:((x.kind:Int) == 6)=false:=by simp;omega
  have hV:oneV x s a g=if a < s.length∧(x.kind=2∨(x.kind=3∧x.set (ch s a)=true)∨(x.kind=1∧x.byte=ch s a)) then some 1 else none:=by
   unfold oneV
   rw [if_neg h4,if_neg h5,if_neg h6]
  have HV:=Lib.hid hV
  clear hV h4 h5 h6
  by_cases hlt:a < s.length
  ·have hbl:=bt_lt s a
   have hcs:=CS.out (bt s a) hbl
   have hch:ch s a=bt s a:=rfl
   have HV2:Hid (oneV x s a g=if x.kind=2∨(x.kind=3∧x.set (bt s a)=true)∨(x.kind=1∧x.byte=bt s a) then some 1 else none):=Lib.hid (by
    rw [HV.out,hch]
    simp only [hlt,true_and])
   clear HV hch
   obtain ⟨C,hC⟩:∃ C,bt s a=C:=⟨_,rfl⟩
   rw [hC] at hcs HV2 hbl
   by_cases h2:x.kind=2
   ·have b2:((x.kind:Int) == 2)=true:=by simp;omega
    have hR:R=1:=by rw [← HR.out];exact oneI_some (by rw [HV2.out,if_pos (.inl h2)])
    subst hR
    clear HR HV2 h2
    go_upto_region 4 with fail
    go_quiet (fail)
    go_wp2_with fail
    go_meet
    exact ⟨rfl,by repeat' first | exact Grows.refl _ | refine Grows.drewN ?_ _ | refine Grows.drew ?_⟩
   have b2:((x.kind:Int) == 2)=false:=by simp;omega
   by_cases h3:x.kind=3
   ·have b3:((x.kind:Int) == 3)=true:=by simp;omega
    have b1:((x.kind:Int) == 1)=false:=by simp;omega
    cases hp:x.set C with
    | true =>
     rw [hp] at hcs
     have hR:R=1:=by rw [← HR.out];exact oneI_some (by rw [HV2.out,if_pos (.inr (.inl ⟨h3,hp⟩))])
     subst hR
     clear HR HV2 h2 h3 hp
     go_upto_region 4 with fail
     go_quiet (fail)
     go_wp2_with fail
     go_meet
     exact ⟨rfl,by repeat' first | exact Grows.refl _ | refine Grows.drewN ?_ _ | refine Grows.drew ?_⟩
    | false =>
     rw [hp] at hcs
     have hR:R=-1:=by rw [← HR.out];exact oneI_none (by rw [HV2.out,if_neg];rintro (h | ⟨-,h⟩ | ⟨h,-⟩);exact h2 h;rw [hp] at h;cases h;omega)
     subst hR
     clear HR HV2 h2 h3 hp
     go_upto_region 4 with fail
     go_quiet (fail)
     go_wp2_with fail
     go_meet
     exact ⟨rfl,by repeat' first | exact Grows.refl _ | refine Grows.drewN ?_ _ | refine Grows.drew ?_⟩
   have b3:((x.kind:Int) == 3)=false:=by simp;omega
   by_cases h1:x.kind=1
   ·have b1:((x.kind:Int) == 1)=true:=by simp;omega
    by_cases hb:x.byte=C
    ·have bb:((C:Int) == (x.byte:Int))=true:=by simp;omega
     have hR:R=1:=by rw [← HR.out];exact oneI_some (by rw [HV2.out,if_pos (.inr (.inr ⟨h1,hb⟩))])
     subst hR
     clear HR HV2 h1 h2 h3 hb
     go_upto_region 4 with fail
     go_quiet (fail)
     go_wp2_with fail
     go_meet
     exact ⟨rfl,by repeat' first | exact Grows.refl _ | refine Grows.drewN ?_ _ | refine Grows.drew ?_⟩
    ·have bb:((C:Int) == (x.byte:Int))=false:=by simp;omega
     have hR:R=-1:=by rw [← HR.out];exact oneI_none (by rw [HV2.out,if_neg];rintro (h | ⟨h,-⟩ | ⟨-,h⟩);exact h2 h;exact h3 h;exact hb h)
     subst hR
     clear HR HV2 h1 h2 h3 hb
     go_upto_region 4 with fail
     go_quiet (fail)
     go_wp2_with fail
     go_meet
     exact ⟨rfl,by repeat' first | exact Grows.refl _ | refine Grows.drewN ?_ _ | refine Grows.drew ?_⟩
   have b1:((x.kind:Int) == 1)=false:=by simp;omega
   have hR:R=-1:=by rw [← HR.out];exact oneI_none (by rw [HV2.out,if_neg];rintro (h | ⟨h,-⟩ | ⟨h,-⟩);exact h2 h;exact h3 h;exact h1 h)
   subst hR
   clear HR HV2 h1 h2 h3
   go_upto_region 4 with fail
   go_quiet (fail)
   go_wp2_with fail
   go_meet
   exact ⟨rfl,by repeat' first | exact Grows.refl _ | refine Grows.drewN ?_ _ | refine Grows.drew ?_⟩
  ·have hlb:decide (a < s.length)=false:=decide_eq_false hlt
   have hR:R=-1:=by rw [← HR.out];exact oneI_none (by rw [HV.out,if_neg fun h=>hlt h.1])
   subst hR
   clear HR HV hlt
   go_upto_region 4 with fail
   go_quiet (fail)
   go_wp2_with fail
   go_meet
   exact ⟨rfl,by repeat' first | exact Grows.refl _ | refine Grows.drewN ?_ _ | refine Grows.drew ?_⟩
 case rest =>
  obtain ⟨rfl,hgx⟩:=hcut
  have hsbx:blk wc sb=daC s (n+1) most:=blkG HSB.out (by simp [daC]) hgx
  have hbgx:blk wc (w.heap.size+1)=spC g:=blkG HBG.out (by omega) hgx
  have hld:=loadSp_all wc (w.heap.size+1) (spC g) hbgx hsz
  have HCX:=Lib.hid (HC3.out.trans (Chg.of_grows hgx))
  have HSX:=Lib.hid hsbx
  have hzx:w.heap.size≤wc.heap.size:=by have:=hgx.below.size;omega
  clear hgx hbgx hsbx HSB HBG CS CG c0 c1 c258 m0 ib3
  cases hv:oneV x s a g with
  | none =>
   have hR:R=-1:=by rw [← HR.out];exact oneI_none hv
   have eL:oneL x s a g=[]:=by unfold oneL;rw [hv]
   have EL:=Lib.hid eL
   subst hR
   clear HR hv eL
   go_wp2_with fail
   go_ret
   exact ⟨_,rfl,by rw [EL.out];exact SsAt.nil _ _,HSX.out,HCX.out⟩
  | some m =>
   have hR:R=m:=by rw [← HR.out];exact oneI_some hv
   have hm:a+m≤s.length:=oneV_le hv ha
   have eL:oneL x s a g=[(a+m,g,.cons m .nil .nil)]:=by unfold oneL;rw [hv]
   have EL:=Lib.hid eL
   subst hR
   clear HR hv eL
   go_wp2_with fail
   go_ret
   have hT:=TwoAt.start wc #[.int .i64 m,.slice none 0 0] (stC ((a:Int)+m) g (.slice (some ⟨wc.heap.size,0,none⟩) 1 1)) 130 87
   have e:(a:Int)+m=((a+m:Nat):Int):=by omega
   have hT2:=hT.snd
   rw [e] at hT2
   exact ⟨_,rfl,by
    rw [EL.out]
    exact st_blk (t:=(a+m,g,.cons m .nil .nil)) hT2 hgl (wy_blk hT.fst (WyAt.zero _ _) (by omega) ⟨hzx,by omega⟩) (by omega),blkG HSX.out (by simp [daC]) hT.grows,HCX.out.trans (Chg.of_grows hT.grows)⟩
end Go.Proofs.YtnjagecmhdagkaaGreatDoor
