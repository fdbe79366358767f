/-
 Several texts of the proof: MatRfP, MatFitP, MatRfS, BreNodesM, ClsDoes, BreSame, MatDa.
-/
import Derived.Test.YtnjagecmhdagkaaGreatDoorPk39
import Derived.Test.YtnjagecmhdagkaaGreatDoorPk15
import Derived.Test.YtnjagecmhdagkaaGreatDoorPk25
import Derived.Test.YtnjagecmhdagkaaGreatDoorPk11
import Derived.Test.YtnjagecmhdagkaaGreatDoorPk17
import Derived.Test.YtnjagecmhdagkaaGreatDoorPk34
set_option linter.unusedSimpArgs false
set_option linter.unusedVariables false
set_option maxRecDepth 3000
/-
  Matches, the document's way by all ways, in plain words: what is spent, and what comes out.
-/
namespace Go.Proofs.YtnjagecmhdagkaaGreatDoor
open Go.RowKit
abbrev St:=Nat × Spn × Wy
def Wy.app:Wy→Wy→Wy
 | .nil,b=>b
 | .cons l k r,b=>.cons l k (r.app b)
end Go.Proofs.YtnjagecmhdagkaaGreatDoor
namespace Go.Proofs.YtnjagecmhdagkaaGreatDoor
open Go.RowKit
structure Atm where
 c:UInt8
 any:Bool
 star:Bool
def fitB (x:Atm) (s:List UInt8) (k:Nat):Prop:=k < s.length∧(x.any=true∨x.c.toNat=ch s k)
def stepP (x:Atm) (s:List UInt8) (a i:Nat):Prop:=if x.star=true then a≤i∧∀ k,a≤k→k < i→fitB x s k else i=a+1∧fitB x s a
def FitP (s:List UInt8):List Atm→Nat→Nat→Prop
 | [],a,b=>b=a
 | x::l,a,b=>∃ i,stepP x s a i∧FitP s l i b
theorem stepP.le {x:Atm} {s:List UInt8} {a i:Nat} (h:stepP x s a i):a≤i∧(a≤s.length→i≤s.length):=by
 unfold stepP at h
 split at h
 ·refine ⟨h.1,fun ha=>?_⟩
  rcases Nat.lt_or_ge a i with h2 | h2
  ·have:=(h.2 (i - 1) (by omega) (by omega)).1;omega
  ·omega
 ·have:=h.2.1;exact ⟨by omega,fun _=>by omega⟩
theorem FitP.le {s:List UInt8}:∀ {l:List Atm} {a b:Nat},FitP s l a b→a≤b∧(a≤s.length→b≤s.length):=by
 intro l
 induction l with
 | nil=>intro a b h;rw [show b=a from h];exact ⟨Nat.le_refl _,id⟩
 | cons x l ih =>
  rintro a b ⟨i,h1,h2⟩
  have:=h1.le
  have:=ih h2
  exact ⟨by omega,fun h=>by omega⟩
end Go.Proofs.YtnjagecmhdagkaaGreatDoor
namespace Go.Proofs.YtnjagecmhdagkaaGreatDoor
open Go.RowKit
theorem unset_len2:∀ {f:Fr} {g:Spn},(unsetV f g).length=g.length:=by
 intro f
 induction f with
 | nil=>intro g;rfl
 | cons x k r ihk ihr =>
  intro g
  unfold unsetV
  rw [ihr,ihk]
  split
  ·rw [spSet_len]
  ·rfl
end Go.Proofs.YtnjagecmhdagkaaGreatDoor
namespace Go.Proofs.YtnjagecmhdagkaaGreatDoor
open Go.RowKit
def wsA (many groups:Int) (p:Nat→Bool) (bad refs:Bool):Array Value :=
 #[.int .i64 many,.int .i64 groups,.bool (p 0),.bool (p 1),.bool (p 2),.bool (p 3),.bool (p 4),.bool (p 5),.bool (p 6),.bool (p 7),.bool (p 8),.bool (p 9),.bool bad,.bool refs]
section
variable (many groups:Int) (p:Nat→Bool) (bad refs:Bool)
theorem wsA_size:(wsA many groups p bad refs).size=14:=rfl
end
section
variable {w:World} {g:Nat} {many groups:Int} {p:Nat→Bool} {bad refs:Bool}
def WsAt (w:World) (g:Nat) (many groups:Int) (p:Nat→Bool) (bad refs:Bool):Prop:=blk w g=wsA many groups p bad refs
theorem WsAt.inh (h:WsAt w g many groups p bad refs):InHeap g w:=Blk.inHeap h (by rw [wsA_size];omega)
theorem WsAt.cell (h:WsAt w g many groups p bad refs) (i:Nat):w.cell? ⟨g,i,none⟩=(wsA many groups p bad refs)[i]?:=Blk.cell h (by rw [wsA_size];omega) i
theorem WsAt.cells (h:WsAt w g many groups p bad refs):w.cell? ⟨g,0,none⟩=some (.int .i64 many)∧w.cell? ⟨g,1,none⟩=some (.int .i64 groups)∧w.cell? ⟨g,12,none⟩=some (.bool bad)∧w.cell? ⟨g,13,none⟩=some (.bool refs) :=
 ⟨h.cell 0,h.cell 1,h.cell 12,h.cell 13⟩
theorem WsAt.alloc (h:WsAt w g many groups p bad refs) (o:Obj):WsAt (w.alloc o) g many groups p bad refs :=
 (blk_alloc_past _ _ _ h.inh).trans h
theorem WsAt.grows {w':World} (h:WsAt w g many groups p bad refs) (hg:Grows w w'):WsAt w' g many groups p bad refs:=by
 have:=h.inh
 obtain ⟨m,rfl⟩:=hg
 exact (blk_more _ _ _ this).trans h
end
structure Nb (wr W:World) (g nb:Nat) (C:Array Value):Prop where
 lt:g < nb
 cells:blk W nb=C
 size:C.size=262
 chg:Chg (fun b=>b=g) wr W
section
variable {wr W W':World} {g nb:Nat} {C:Array Value}
theorem Nb.inh (h:Nb wr W g nb C):InHeap nb W:=Blk.inHeap h.cells (by rw [h.size];omega)
theorem Nb.cell (h:Nb wr W g nb C) (j:Nat):W.cell? ⟨nb,j,none⟩=C[j]?:=Blk.cell h.cells (by rw [h.size];omega) j
theorem Nb.step (h:Nb wr W g nb C) (hc:Chg (fun b=>b=g) W W'):Nb wr W' g nb C :=
 ⟨h.lt,(chg_blk hc h.inh (by have:=h.lt;omega)).trans h.cells,h.size,h.chg.trans hc⟩
theorem Nb.start (hg:InHeap g wr) (hc:Chg (fun b=>b=g) wr W) (hz:W.heap.size=wr.heap.size) (hs:C.size=262) (t:TypeId):Nb wr (W.alloc (.cells C t)) g wr.heap.size C :=
 ⟨hg,blk_alloc_at _ _ _ _ hz.symm,hs,hc.trans (Chg.of_grows ((Grows.refl _).alloc _))⟩
end
theorem WsAt.drewN {w:World} {g:Nat} {many groups:Int} {p:Nat→Bool} {bad refs:Bool} (h:WsAt w g many groups p bad refs) (n:Nat):WsAt (w.drewN n) g many groups p bad refs:=h
end Go.Proofs.YtnjagecmhdagkaaGreatDoor
namespace Go.Proofs.YtnjagecmhdagkaaGreatDoor
open Go.RowKit
attribute [local go_sem] tx_bt tx_from SA_getElem
attribute [local go_sem ↓] zero22
def cnt (p:Nat→Bool):Nat→Nat
 | 0=>0
 | j+1=>cnt p j+if p j then 1 else 0
theorem equal22 (w:World) (p:Nat→Bool):(Op.equalIn 10000 89 (.agg (SA p)) (.agg (SA p))).run Tryz.prog w=.ok true w:=by
 refine run_equalIn_array_same w 9999 89 4 256 (SA p) Tryz.underlying89 Tryz.sizeOf4 fun i hi=>⟨.bool (p i),fun w=>⟨?_,?_⟩⟩
 ·simp [go_sem,hi]
 ·simp [go_sem]
end Go.Proofs.YtnjagecmhdagkaaGreatDoor
namespace Go.Proofs.YtnjagecmhdagkaaGreatDoor
open Go.RowKit
theorem row22:RowOf Tryz.prog 89 256:=⟨_,Tryz.underlying89,rfl,by kernel_rfl⟩
def ld22 (x:Value):Sem Value:=Instr.loadAt 89 x
theorem ld22_eq (x:Value):Instr.loadAt 89 x=ld22 x:=rfl
section
variable (w:World) (g o:Nat)
theorem load22:(ld22 (.pointer (some ⟨g,o,none⟩))).run Tryz.prog w=loadPart Tryz.prog w 89 g o 256:=rfl
theorem load22_if:loadPart Tryz.prog w 89 g o 256=if 0 < 256∧o+256≤(blk w g).size then .ok (.agg (span (blk w g) o 256)) w else loadPartOdd Tryz.prog w 89 g o 256:=loadPart_if w _ g o 256 row22
end
theorem node_loadR {w:World} {b o:Nat} {c:Array Value} (hc:c.size=262) (h:∀ j u,c[j]?=some u→w.cell? ⟨b,o+j,none⟩=some u):loadPart Tryz.prog w 91 b o 262=.ok (.agg c) w:=by
 obtain ⟨d,hu,hd,hi⟩:=rowNodeR
 unfold loadPart
 simp only [Instr.loadAt,Instr.sureAddr,Sem.run_bind,Sem.run_pure,Result.andThen_ok]
 exact run_loadVar_cells w b o 91 c.toList d (fun j v hv=>h j v (by rw [← Array.getElem?_toList];exact hv)) hu hd (by rw [hi];simp [hc])
attribute [local go_sem ↓] zeroNode zeroNodeR ldNode_eq stNode_eq ldNodeR_eq stNodeR_eq ld22_eq
attribute [local go_sem] loadNode storeNode storeNode_if loadNodeR storeNodeR storeNodeR_if load22 load22_if equal22
end Go.Proofs.YtnjagecmhdagkaaGreatDoor
namespace Go.Proofs.YtnjagecmhdagkaaGreatDoor
open Go.RowKit
def daC (s:List UInt8) (spent:Nat) (most:Int):Array Value:=#[.string (tx s),.int .i64 spent,.int .i64 most]
def stC (a:Int) (g:Spn) (v:Value):Array Value:=#[.int .i64 a]++spC g++#[v]
section
variable {a:Int} {g:Spn} {v:Value}
theorem stC_size (h:g.length=20):(stC a g v).size=22:=by simp [stC,spC_size,h]
theorem stC_0:(stC a g v)[0]?=some (.int .i64 a):=by
 unfold stC
 rw [Array.getElem?_append_left (by simp;omega),Array.getElem?_append_left (by simp)]
 rfl
theorem stC_sp (h:g.length=20) {j:Nat} (hj:j < 20):(stC a g v)[1+j]?=(spC g)[j]?:=by
 unfold stC
 rw [Array.getElem?_append_left (by simp [spC_size,h];omega),Array.getElem?_append_right (by simp)]
 simp
theorem stC_21 (h:g.length=20):(stC a g v)[21]?=some v:=by
 unfold stC
 rw [Array.getElem?_append_right (by simp [spC_size,h])]
 simp [spC_size,h]
end
def StRow (ok:Nat→Prop) (w:World):List St→List Value→Prop
 | [],xs=>xs=[]
 | t::l,xs=>∃ (A:Option Addr) (cap:Nat) (zs:List Value),xs=(stC t.1 t.2.1 (.slice A t.2.2.len cap)).toList++zs∧t.2.1.length=20∧WyAt ok w A cap t.2.2∧StRow ok w l zs
section
variable {ok ok2 q:Nat→Prop} {w w':World} {A:Option Addr} {cap:Nat}
theorem StRow.chg (hc:Chg q w w') (hp:∀ b,b < w.heap.size→ok b→¬ q b):∀ {l:List St} {xs:List Value},StRow ok w l xs→StRow ok w' l xs
 | [],_,h=>h
 | _::_,_,⟨A,cap,zs,e,h1,h2,h3⟩=>⟨A,cap,zs,e,h1,h2.chg hc hp,h3.chg hc hp⟩
theorem StRow.mono (ho:∀ b,b < w.heap.size→ok b→ok2 b):∀ {l:List St} {xs:List Value},StRow ok w l xs→StRow ok2 w l xs
 | [],_,h=>h
 | _::_,_,⟨A,cap,zs,e,h1,h2,h3⟩=>⟨A,cap,zs,e,h1,h2.mono ho,h3.mono ho⟩
theorem StRow.app {m:List St} {ys:List Value} (hm:StRow ok w m ys):∀ {l:List St} {xs:List Value},StRow ok w l xs→StRow ok w (l++m) (xs++ys)
 | [],xs,h=>by cases h;exact hm
 | t::l,xs,⟨A,cap,zs,e,h1,h2,h3⟩=>⟨A,cap,zs++ys,by rw [e,List.append_assoc],h1,h2,StRow.app hm h3⟩
theorem StRow.one {t:St} (h1:t.2.1.length=20) (h2:WyAt ok w A cap t.2.2):StRow ok w [t] (stC t.1 t.2.1 (.slice A t.2.2.len cap)).toList:=⟨A,cap,[],by simp,h1,h2,rfl⟩
theorem StRow.at {t:St} {c:List St}:∀ {a:List St} {xs:List Value},StRow ok w (a++t::c) xs→∃ (A:Option Addr) (cap:Nat) (ys zs:List Value),xs=ys++((stC t.1 t.2.1 (.slice A t.2.2.len cap)).toList++zs)∧ys.length=a.length*22∧t.2.1.length=20∧WyAt ok w A cap t.2.2∧StRow ok w a ys∧StRow ok w c zs
 | [],xs,⟨A,cap,zs,e,h1,h2,h3⟩=>⟨A,cap,[],zs,by rw [e];rfl,by simp,h1,h2,rfl,h3⟩
 | u::a,xs,⟨A0,cap0,zs0,e,g1,g2,g3⟩=>by
  obtain ⟨A,cap,ys,zs,e2,k1,k2,k3,k4,k5⟩:=StRow.at (a:=a) g3
  refine ⟨A,cap,(stC u.1 u.2.1 (.slice A0 u.2.2.len cap0)).toList++ys,zs,by rw [e,e2,List.append_assoc],?_,k2,k3,⟨A0,cap0,ys,rfl,g1,g2,k4⟩,k5⟩
  rw [List.length_append,Array.length_toList,stC_size g1,k1,List.length_cons]
  omega
theorem StRow.len:∀ {l:List St} {xs:List Value},StRow ok w l xs→xs.length=l.length*22
 | [],xs,h=>by cases h;rfl
 | t::l,xs,⟨A,cap,zs,e,h1,h2,h3⟩=>by
  rw [e,List.length_append,Array.length_toList,stC_size h1,StRow.len h3,List.length_cons]
  omega
end
def SsAt (ok:Nat→Prop) (w:World) (v:Value) (L:List St):Prop:=∃ (A:Option Addr) (cap:Nat) (xs:List Value),v=.slice A L.length cap∧SlZ 22 ok w A cap L.length xs∧StRow (fun b=>ok b∧∀ a,A=some a→b≠a.block) w L xs
section
variable {ok ok2 q:Nat→Prop} {w w':World} {v:Value} {L:List St}
theorem SsAt.chg (h:SsAt ok w v L) (hc:Chg q w w') (hp:∀ b,b < w.heap.size→ok b→¬ q b):SsAt ok w' v L:=by
 obtain ⟨A,cap,xs,e,h1,h2⟩:=h
 exact ⟨A,cap,xs,e,h1.chg hc hp,h2.chg hc fun b hb ho=>hp b hb ho.1⟩
theorem SsAt.grows (h:SsAt ok w v L) (hg:Grows w w'):SsAt ok w' v L:=h.chg (Chg.of_grows (p:=fun _=>False) hg) fun _ _ _ h=>h
theorem SsAt.mono (h:SsAt ok w v L) (ho:∀ b,b < w.heap.size→ok b→ok2 b):SsAt ok2 w v L:=by
 obtain ⟨A,cap,xs,e,h1,h2⟩:=h
 exact ⟨A,cap,xs,e,h1.mono ho,h2.mono fun b hb ho2=>⟨ho b hb ho2.1,ho2.2⟩⟩
theorem SsAt.nil (ok:Nat→Prop) (w:World):SsAt ok w (.slice none 0 0) []:=⟨none,0,[],rfl,SlZ.zero 22 ok w,rfl⟩
structure StNth (ok:Nat→Prop) (w:World) (b o:Nat) (t:St) (A:Option Addr) (cap:Nat):Prop where
 len:t.2.1.length=20
 c0:w.cell? ⟨b,o,none⟩=some (.int .i64 t.1)
 sp:∀ j u,(spC t.2.1)[j]?=some u→w.cell? ⟨b,o+1+j,none⟩=some u
 c21:w.cell? ⟨b,o+21,none⟩=some (.slice A t.2.2.len cap)
 wy:WyAt ok w A cap t.2.2
theorem SsAt.form (h:SsAt ok w v L) (hp:0 < L.length):∃ b o cap,v=.slice (some ⟨b,o,none⟩) L.length cap∧InHeap b w∧ok b∧L.length≤cap∧cap≤9223372036854775807:=by
 obtain ⟨A,cap,xs,e,h1,h2⟩:=h
 obtain ⟨b,o,e2,hb,_⟩:=h1.rd.2 hp
 exact ⟨b,o,cap,by rw [e,e2],hb,h1.ok hp _ e2,h1.le,h1.cap63⟩
theorem SsAt.nth {b o n cap:Nat} {a c:List St} {t:St} (h:SsAt ok w (.slice (some ⟨b,o,none⟩) n cap) L) (e:L=a++t::c):∃ A cp,StNth (fun x=>ok x∧x≠b) w b (o+a.length*22) t A cp:=by
 obtain ⟨A,cap2,xs,e2,h1,h2⟩:=h
 injection e2 with e2 e3 e4
 subst e2
 rw [e] at h2
 obtain ⟨A,cp,ys,zs,k1,k2,k3,k4,k5,k6⟩:=h2.at
 obtain ⟨b',o',q1,q2,q3⟩:=h1.rd.2 (by rw [e];simp;omega)
 cases q1
 have hz:(stC t.1 t.2.1 (.slice A t.2.2.len cp)).toList.length=22:=by rw [Array.length_toList,stC_size k3]
 have hc:∀ j u,(stC t.1 t.2.1 (.slice A t.2.2.len cp))[j]?=some u→w.cell? ⟨b,o+(a.length*22+j),none⟩=some u:=fun j u hu=>by
  have hj:j < 22:=by
   have:=(Array.getElem?_eq_some_iff.1 hu).1
   rwa [stC_size k3] at this
  refine q3 _ _ ?_
  rw [k1,← k2,List.getElem?_append_right (Nat.le_add_right _ _),Nat.add_sub_cancel_left,List.getElem?_append_left (by rw [hz];exact hj),Array.getElem?_toList]
  exact hu
 refine ⟨A,cp,k3,by have:=hc 0 _ stC_0;rwa [Nat.add_zero] at this,fun j u hu=>?_,by have:=hc 21 _ (stC_21 k3);rwa [← Nat.add_assoc] at this,k4.mono fun x _ hx=>⟨hx.1,hx.2 _ rfl⟩⟩
 have hj:j < 20:=by
  have:=(Array.getElem?_eq_some_iff.1 hu).1
  rw [spC_size,k3] at this
  exact this
 have:=hc (1+j) u (by rw [stC_sp k3 hj];exact hu)
 rwa [← Nat.add_assoc,← Nat.add_assoc] at this
end
section
variable {ok ok2 q:Nat→Prop} {w w':World} {b o:Nat} {t:St} {A:Option Addr} {cap:Nat}
theorem StNth.inh (h:StNth ok w b o t A cap):InHeap b w:=World.block_lt_of_cell? _ _ h.c0
theorem StNth.chg (h:StNth ok w b o t A cap) (hc:Chg q w w') (hb:¬ q b) (hp:∀ b,b < w.heap.size→ok b→¬ q b):StNth ok w' b o t A cap :=
 ⟨h.len,cellC h.c0 hc hb,fun j u hu=>cellC (h.sp j u hu) hc hb,cellC h.c21 hc hb,h.wy.chg hc hp⟩
theorem StNth.grows (h:StNth ok w b o t A cap) (hg:Grows w w'):StNth ok w' b o t A cap:=h.chg (Chg.of_grows (p:=fun _=>False) hg) (fun h=>h) fun _ _ _ h=>h
end
theorem bldSt_lit (g0 g1 g2 g3 g4 g5 g6 g7 g8 g9 g10 g11 g12 g13 g14 g15 g16 g17 g18 g19:Int) (a:Int) (w:World):(Instr.build 87 #[(0,.int .i64 a),(1,spV [g0,g1,g2,g3,g4,g5,g6,g7,g8,g9,g10,g11,g12,g13,g14,g15,g16,g17,g18,g19])]).run Tryz.prog w=.ok (.agg (stC a [g0,g1,g2,g3,g4,g5,g6,g7,g8,g9,g10,g11,g12,g13,g14,g15,g16,g17,g18,g19] (.slice none 0 0))) w:=by kernel_rfl
theorem bldSt_lit3 (g0 g1 g2 g3 g4 g5 g6 g7 g8 g9 g10 g11 g12 g13 g14 g15 g16 g17 g18 g19:Int) (a:Int) (A:Option Addr) (n c:Nat) (w:World):(Instr.build 87 #[(0,.int .i64 a),(1,spV [g0,g1,g2,g3,g4,g5,g6,g7,g8,g9,g10,g11,g12,g13,g14,g15,g16,g17,g18,g19]),(2,.slice A n c)]).run Tryz.prog w=.ok (.agg (stC a [g0,g1,g2,g3,g4,g5,g6,g7,g8,g9,g10,g11,g12,g13,g14,g15,g16,g17,g18,g19] (.slice A n c))) w:=by kernel_rfl
theorem bldSt_raw (g:Spn) (hg:g.length=20) (a:Int) (w:World):(Instr.build 87 #[(0,.int .i64 a),(1,spV g)]).run Tryz.prog w=.ok (.agg (stC a g (.slice none 0 0))) w:=by
 match g,hg with
 | [g0,g1,g2,g3,g4,g5,g6,g7,g8,g9,g10,g11,g12,g13,g14,g15,g16,g17,g18,g19],_=>exact bldSt_lit g0 g1 g2 g3 g4 g5 g6 g7 g8 g9 g10 g11 g12 g13 g14 g15 g16 g17 g18 g19 a w
theorem bldSt_raw3 (g:Spn) (hg:g.length=20) (a:Int) (A:Option Addr) (n c:Nat) (w:World):(Instr.build 87 #[(0,.int .i64 a),(1,spV g),(2,.slice A n c)]).run Tryz.prog w=.ok (.agg (stC a g (.slice A n c))) w:=by
 match g,hg with
 | [g0,g1,g2,g3,g4,g5,g6,g7,g8,g9,g10,g11,g12,g13,g14,g15,g16,g17,g18,g19],_=>exact bldSt_lit3 g0 g1 g2 g3 g4 g5 g6 g7 g8 g9 g10 g11 g12 g13 g14 g15 g16 g17 g18 g19 a A n c w
theorem bldSlSt_lit (g0 g1 g2 g3 g4 g5 g6 g7 g8 g9 g10 g11 g12 g13 g14 g15 g16 g17 g18 g19:Int) (a:Int) (A:Option Addr) (n c:Nat) (w:World):(Instr.buildSlice 83 1 #[(0,.agg (stC a [g0,g1,g2,g3,g4,g5,g6,g7,g8,g9,g10,g11,g12,g13,g14,g15,g16,g17,g18,g19] (.slice A n c)))]).run Tryz.prog w=.ok (.slice (some ⟨w.heap.size,0,none⟩) 1 1) (w.alloc (.cells (stC a [g0,g1,g2,g3,g4,g5,g6,g7,g8,g9,g10,g11,g12,g13,g14,g15,g16,g17,g18,g19] (.slice A n c)) 87)):=by kernel_rfl
theorem bldSlSt_raw (g:Spn) (hg:g.length=20) (a:Int) (A:Option Addr) (n c:Nat) (w:World):(Instr.buildSlice 83 1 #[(0,.agg (stC a g (.slice A n c)))]).run Tryz.prog w=.ok (.slice (some ⟨w.heap.size,0,none⟩) 1 1) (w.alloc (.cells (stC a g (.slice A n c)) 87)):=by
 match g,hg with
 | [g0,g1,g2,g3,g4,g5,g6,g7,g8,g9,g10,g11,g12,g13,g14,g15,g16,g17,g18,g19],_=>exact bldSlSt_lit g0 g1 g2 g3 g4 g5 g6 g7 g8 g9 g10 g11 g12 g13 g14 g15 g16 g17 g18 g19 a A n c w
end Go.Proofs.YtnjagecmhdagkaaGreatDoor
