/-
 Several texts of the proof: BreParse, BreAsk, BreTwin, BreTree, BreSize, BreZero, BreCell, BreNodesP.
-/
import Derived.Test.YtnjagecmhdagkaaGreatDoorPk14
import Derived.Defers
import Derived.Recover
import Derived.Laws.Pointers
set_option linter.unusedSimpArgs false
set_option linter.unusedVariables false
set_option maxRecDepth 3000
/-
  Patterns: Parse, walked: the deferred function catches what is told where there is no pattern.
-/
namespace Go.Proofs.YtnjagecmhdagkaaGreatDoor
open Go.RowKit
theorem as_none (w:World):(Instr.typeAssert (.iface 46 (.agg #[])) 20 46 true).run Tryz.prog w=.ok (.tuple #[.agg #[],.bool true]) w:=by kernel_rfl
theorem catch_none (rb eb:Nat) (older:List PanicEntry) (w:World) (x y:Value) (hne:¬ rb=eb) (hc:w.cell? ⟨rb,0,none⟩=some x) (hz:w.frozen? ⟨rb,0,none⟩=false) (hc2:w.cell? ⟨eb,0,none⟩=some y) (hz2:w.frozen? ⟨eb,0,none⟩=false) :
  CallsD Tryz.prog 17 #[.pointer (some ⟨rb,0,none⟩),.pointer (some ⟨eb,0,none⟩)] (.panicking ({ v:=.iface 46 (.agg #[]),recovered:=false }::older)) w fun e u' w' =>
   e=.returned (.tuple #[])∧u'=.panicking ({ v:=.iface 46 (.agg #[]),recovered:=true }::older)∧∃ o,w'=((w.setCell ⟨rb,0,none⟩ (.pointer none)).setCell ⟨eb,0,none⟩ (.int .i64 90)).alloc o:=by
 have ir:InHeap rb w:=World.block_lt_of_cell? _ _ hc
 have ie:InHeap eb w:=World.block_lt_of_cell? _ _ hc2
 have hta:=as_none
 refine callsD_of_wpS Tryz.func17 rfl fun c₀ cs hu=>?_
 apply wpS_seq
 apply wpS_region
 simp [wpOpsS,go_sem,recoverD,hu,Tryz.ntmps17,Exit.thenS]
 refine wpS_of_wp ?_
 go_wp2_with fail
 simp [bodyPostS,results,Tryz.results17]
 exact ⟨_,rfl⟩
theorem catch_idle (rb eb:Nat) (w:World) :
  CallsD Tryz.prog 17 #[.pointer (some ⟨rb,0,none⟩),.pointer (some ⟨eb,0,none⟩)] .returning w fun e u' w'=>e=.returned (.tuple #[])∧u'=.returning∧w'=w:=by
 refine callsD_of_wpS Tryz.func17 rfl fun c₀ cs hu=>?_
 apply wpS_seq
 apply wpS_region
 simp [wpOpsS,go_sem,recoverD,hu,Tryz.ntmps17,Exit.thenS]
 refine wpS_of_wp ?_
 go_wp2_with fail
 cases c₀
 simp_all [bodyPostS,results,Tryz.results17]
structure ReAt (ok:Nat→Prop) (w:World) (g:Nat) (f:Fr) (t:PS):Prop where
 tree:∃ A cap,w.cell? ⟨g,1,none⟩=some (.slice A f.len cap)∧FrAt ok w A cap f
 groups:w.cell? ⟨g,2,none⟩=some (.int .i64 t.groups)
 parts:w.cell? ⟨g,3,none⟩=some (.int .i64 t.parts)
 refs:w.cell? ⟨g,4,none⟩=some (.bool t.refs)
def ParsedPost (w:World) (r:Option (Fr × PS)) (e:Ending) (w':World):Prop :=
 match r with
 | none=>e=.returned (.tuple #[.pointer none,.int .i64 90])∧Grows w w'
 | some y=>∃ g,e=.returned (.tuple #[.pointer (some ⟨g,1,none⟩),.int .i64 0])∧ReAt (fun b=>w.heap.size≤b∧¬ b=g) w' g y.1 y.2∧w.heap.size≤g∧Grows w w'
theorem pa_start (l:List UInt8) (w:World) (hl:l.length≤1000000) (t1 t2 t3:TypeId) (a b:Array Value) :
  Pa w.heap.size (((w.alloc (.cells a t1)).alloc (.cells b t2)).alloc (.cells (paC l (.slice none 0 0) 0 0 false (.slice none 0 0)) t3)) (w.heap.size+2) (.slice none 0 0) (.slice none 0 0) (ps0 l) :=
 ⟨blk_alloc_at _ _ _ _ (by simp),World.ownsRow_nil _ _ _ _,(fun e=>by cases e),by omega,by simp [ps0],by simp [ps0],hl,by simp [ps0]⟩
set_option maxHeartbeats 2000000 in
theorem bre_parse (l:List UInt8) (w:World) (hl:l.length≤1000000) (hs:Sane w) :
  Calls Tryz.prog 8 #[.string (tx l)] w (ParsedPost w (patV l)):=by
 have hmf:∀ (fn:Fn) (first cap:Array Value) (w:World),(Instr.makeFunc fn first cap).run Tryz.prog w=.ok (.func fn first cap) w:=fun _ _ _ _=>rfl
 obtain ⟨R,hR⟩:∃ R,patV l=R:=⟨_,rfl⟩
 rw [hR]
 have HR:=Lib.hid hR
 have HSN:=Lib.hid hs
 have HLT:=Lib.hid hs.lt
 have HL:=Lib.hid hl
 clear hR hs
 go_enter_defers Tryz.func8,Tryz.ntmps8
 go_wp2_with fail
 have hP:Pa w.heap.size _ (w.heap.size+1+1) _ _ _:=pa_start l w HL.out 24 25 53 #[.pointer none] #[.int .i64 0]
 have hG:Grows w (((w.alloc (.cells #[.pointer none] 24)).alloc (.cells #[.int .i64 0] 25)).alloc (.cells (paC l (.slice none 0 0) 0 0 false (.slice none 0 0)) 53)):=(((Grows.refl _).alloc _).alloc _).alloc _
 have hcall:=row_any (.slice none 0 0) (l.length+1) (ps0 l) (by simp [ps0]) w.heap.size (w.heap.size+1+1) (.slice none 0 0) _ hP ⟨HSN.out.grows hG,HLT.out⟩
 have hc0:(((w.alloc (.cells #[.pointer none] 24)).alloc (.cells #[.int .i64 0] 25)).alloc (.cells (paC l (.slice none 0 0) 0 0 false (.slice none 0 0)) 53)).cell? ⟨w.heap.size,0,none⟩=some (.pointer none):=by simp [go_sem]
 have hc1:(((w.alloc (.cells #[.pointer none] 24)).alloc (.cells #[.int .i64 0] 25)).alloc (.cells (paC l (.slice none 0 0) 0 0 false (.slice none 0 0)) 53)).cell? ⟨w.heap.size+1,0,none⟩=some (.int .i64 0):=by simp [go_sem]
 have hf0:(((w.alloc (.cells #[.pointer none] 24)).alloc (.cells #[.int .i64 0] 25)).alloc (.cells (paC l (.slice none 0 0) 0 0 false (.slice none 0 0)) 53)).frozen? ⟨w.heap.size,0,none⟩=false:=by simp [go_sem]
 have hf1:(((w.alloc (.cells #[.pointer none] 24)).alloc (.cells #[.int .i64 0] 25)).alloc (.cells (paC l (.slice none 0 0) 0 0 false (.slice none 0 0)) 53)).frozen? ⟨w.heap.size+1,0,none⟩=false:=by simp [go_sem]
 have hsz:(((w.alloc (.cells #[.pointer none] 24)).alloc (.cells #[.int .i64 0] 25)).alloc (.cells (paC l (.slice none 0 0) 0 0 false (.slice none 0 0)) 53)).heap.size=w.heap.size+3:=by simp
 have hw1:∀ {x},Grows x x:=fun {x}=>Grows.refl x
 clear hP
 generalize hwe:((w.alloc (.cells #[.pointer none] 24)).alloc (.cells #[.int .i64 0] 25)).alloc (.cells (paC l (.slice none 0 0) 0 0 false (.slice none 0 0)) 53)=w1 at hG hcall hc0 hc1 hf0 hf1 hsz
 change Calls Tryz.prog _ _ (((w.alloc (.cells #[.pointer none] 24)).alloc (.cells #[.int .i64 0] 25)).alloc (.cells (paC l (.slice none 0 0) 0 0 false (.slice none 0 0)) 53)) _
 rw [hwe]
 clear hwe hw1
 cases hrow:rowF true false (ps0 l) with
 | none =>
  rw [hrow] at hcall
  have hV:R=none:=by rw [← HR.out];unfold patV;rw [hrow];rfl
  refine hcall.mono ?_
  rintro e w2 ⟨rfl,hc⟩
  subst hV
  have hK:∀ b,PaK (w.heap.size+1+1) (.slice none 0 0) b→w.heap.size+1+1≤b:=by
   rintro b (h | h)
   ·omega
   ·cases h
  have hq:=hc.mono (q:=fun b=>w.heap.size+1+1≤b) fun b _ h=>hK b h
  have d0:=(hq.cell (a:=⟨w.heap.size,0,none⟩) (by simp only [];omega) (by simp only [];omega)).trans hc0
  have d1:=(hq.cell (a:=⟨w.heap.size+1,0,none⟩) (by simp only [];omega) (by simp only [];omega)).trans hc1
  have z0:=(hq.frozen (a:=⟨w.heap.size,0,none⟩) (by simp only [];omega) (by simp only [];omega)).trans hf0
  have z1:=(hq.frozen (a:=⟨w.heap.size+1,0,none⟩) (by simp only [];omega) (by simp only [];omega)).trans hf1
  have hGW:Grows w w2:=Chg.grows (n:=0) hG hq fun b hb=>by omega
  have ir:InHeap w.heap.size w2:=World.block_lt_of_cell? _ _ d0
  have ie:InHeap (w.heap.size+1) w2:=World.block_lt_of_cell? _ _ d1
  clear hq
  refine leaves_cons (f:=17) (args:=#[.pointer (some ⟨w.heap.size,0,none⟩),.pointer (some ⟨w.heap.size+1,0,none⟩)]) (by simp) (by simp [go_sem]) ?_
  refine (catch_none w.heap.size (w.heap.size+1) [] _ _ _ (by omega) d0 z0 d1 z1).mono ?_
  rintro e u' w3 ⟨rfl,rfl,o,rfl⟩
  have g3:Grows w (((w2.setCell ⟨w.heap.size,0,none⟩ (.pointer none)).setCell ⟨w.heap.size+1,0,none⟩ (.int .i64 90)).alloc o):=((hGW.setCell (p:=⟨w.heap.size,0,none⟩) (Nat.le_refl _) _).setCell (p:=⟨w.heap.size+1,0,none⟩) (Nat.le_succ _) _).alloc o
  simp [Leaves,settle,results,Tryz.results8,go_sem,ParsedPost,d0,d1,ir,ie,g3]
 | some y =>
  obtain ⟨f,t⟩:=y
  rw [hrow] at hcall
  refine hcall.mono ?_
  rintro e w2 ⟨A,cap,ov2,rfl,hP,hS,hF⟩
  have hK:∀ b,PaK (w.heap.size+1+1) (.slice none 0 0) b→w.heap.size+1+1≤b:=by
   rintro b (h | h)
   ·omega
   ·cases h
  have ig:=hP.inh
  have fg:=hP.free
  obtain ⟨q0,q1,-⟩:=hP.six
  have hb3:blk (w2.setCell ⟨w.heap.size+1+1,1,none⟩ (.slice A f.len cap)) (w.heap.size+1+1)=paC t.left (.slice A f.len cap) t.groups t.parts t.refs ov2:=(pa_put hP.cells (paC_pos _ _ _ _ _ _) 1 _).trans rfl
  have hq2:Chg (fun b=>w.heap.size+1+1≤b) w1 w2:=hS.chg.mono fun b _ h=>hK b h
  have hq3:=hq2.trans ((chg_cell w2 (w.heap.size+1+1) 1 (.slice A f.len cap)).mono fun b _ h=>(by omega:w.heap.size+1+1≤b))
  have F3:=Lib.hid (hF.chg (chg_cell w2 (w.heap.size+1+1) 1 (.slice A f.len cap)) fun b _ h e=>h.2 (.inl e))
  have HROW:=Lib.hid hrow
  clear hP hS hF hcall hrow
  cases htl:t.left with
  | nil =>
   have hV:R=some (f,t):=by rw [← HR.out];unfold patV;rw [HROW.out];simp [htl]
   have he:(tx ([]:List UInt8)).toList.isEmpty=true:=by rw [ByteArray.toList_eq];rfl
   rw [htl] at q0
   go_wp2_with fail
   (with_reducible refine (must_ok _).mono ?_)
   rintro e w3 ⟨rfl,rfl⟩
   subst hV
   have d0:=(hq3.cell (a:=⟨w.heap.size,0,none⟩) (by simp only [];omega) (by simp only [];omega)).trans hc0
   have d1:=(hq3.cell (a:=⟨w.heap.size+1,0,none⟩) (by simp only [];omega) (by simp only [];omega)).trans hc1
   have z0:=(hq3.frozen (a:=⟨w.heap.size,0,none⟩) (by simp only [];omega) (by simp only [];omega)).trans hf0
   have z1:=(hq3.frozen (a:=⟨w.heap.size+1,0,none⟩) (by simp only [];omega) (by simp only [];omega)).trans hf1
   have hGW:Grows w (w2.setCell ⟨w.heap.size+1+1,1,none⟩ (.slice A f.len cap)):=Chg.grows (n:=0) hG hq3 fun b hb=>by omega
   have B3:=Lib.hid hb3
   clear hq2 hq3 q0 q1 fg ig hc0 hc1 hf0 hf1 hb3
   generalize w2.setCell ⟨w.heap.size+1+1,1,none⟩ (.slice A f.len cap)=w3 at *
   have i0:InHeap w.heap.size w3:=World.block_lt_of_cell? _ _ d0
   have i1:InHeap (w.heap.size+1) w3:=World.block_lt_of_cell? _ _ d1
   have G4:=Lib.hid ((hGW.setCell (p:=⟨w.heap.size,0,none⟩) (Nat.le_refl _) (.pointer (some ⟨w.heap.size+1+1,1,none⟩))).setCell (p:=⟨w.heap.size+1,0,none⟩) (Nat.le_succ _) (.int .i64 0))
   have hC4:Chg (fun b=>b < w.heap.size+1+1) w3 ((w3.setCell ⟨w.heap.size,0,none⟩ (.pointer (some ⟨w.heap.size+1+1,1,none⟩))).setCell ⟨w.heap.size+1,0,none⟩ (.int .i64 0)) :=
    ((chg_cell w3 w.heap.size 0 _).mono fun b _ h=>(by omega:b < w.heap.size+1+1)).trans ((chg_cell _ (w.heap.size+1) 0 _).mono fun b _ h=>(by omega:b < w.heap.size+1+1))
   have C4:=Lib.hid hC4
   clear hC4
   go_wp2_with fail
   refine leaves_cons (f:=17) (args:=#[.pointer (some ⟨w.heap.size,0,none⟩),.pointer (some ⟨w.heap.size+1,0,none⟩)]) (by simp) (by simp [go_sem]) ?_
   refine (catch_idle w.heap.size (w.heap.size+1) _).mono ?_
   rintro e u' w5 ⟨rfl,rfl,rfl⟩
   have hRe:ParsedPost w (some (f,t)) (.returned (.tuple #[.pointer (some ⟨w.heap.size+1+1,1,none⟩),.int .i64 0])) ((w3.setCell ⟨w.heap.size,0,none⟩ (.pointer (some ⟨w.heap.size+1+1,1,none⟩))).setCell ⟨w.heap.size+1,0,none⟩ (.int .i64 0)):=by
    have hb4:=(chg_blk C4.out (Blk.inHeap B3.out (paC_pos _ _ _ _ _ _)) (by omega)).trans B3.out
    have hcc:=fun i=>Blk.cell hb4 (paC_pos _ _ _ _ _ _) i
    refine ⟨w.heap.size+1+1,rfl,⟨⟨A,cap,hcc 1,?_⟩,hcc 2,hcc 3,hcc 4⟩,by omega,G4.out⟩
    exact (F3.out.chg C4.out fun b hb h=>by have:=h.1;omega).mono fun b hb h=>⟨by have:=h.1;omega,fun e=>h.2 (.inl e)⟩
   simp [Leaves,settle,results,Tryz.results8,go_sem,d0,d1,i0,i1]
   exact hRe
  | cons c l2 =>
   have hV:R=none:=by rw [← HR.out];unfold patV;rw [HROW.out];simp [htl]
   have he:(tx (c::l2)).toList.isEmpty=false:=by rw [ByteArray.toList_eq,tx_data];rfl
   rw [htl] at q0
   go_wp2_with fail
   (with_reducible refine (must_no _).mono ?_)
   rintro e w3 ⟨rfl,rfl⟩
   subst hV
   have hq:=hq3
   have d0:=(hq.cell (a:=⟨w.heap.size,0,none⟩) (by simp only [];omega) (by simp only [];omega)).trans hc0
   have d1:=(hq.cell (a:=⟨w.heap.size+1,0,none⟩) (by simp only [];omega) (by simp only [];omega)).trans hc1
   have z0:=(hq.frozen (a:=⟨w.heap.size,0,none⟩) (by simp only [];omega) (by simp only [];omega)).trans hf0
   have z1:=(hq.frozen (a:=⟨w.heap.size+1,0,none⟩) (by simp only [];omega) (by simp only [];omega)).trans hf1
   have hGW:Grows w (w2.setCell ⟨w.heap.size+1+1,1,none⟩ (.slice A f.len cap)):=Chg.grows (n:=0) hG hq fun b hb=>by omega
   have ir:InHeap w.heap.size (w2.setCell ⟨w.heap.size+1+1,1,none⟩ (.slice A f.len cap)):=World.block_lt_of_cell? _ _ d0
   have ie:InHeap (w.heap.size+1) (w2.setCell ⟨w.heap.size+1+1,1,none⟩ (.slice A f.len cap)):=World.block_lt_of_cell? _ _ d1
   clear hq
   refine leaves_cons (f:=17) (args:=#[.pointer (some ⟨w.heap.size,0,none⟩),.pointer (some ⟨w.heap.size+1,0,none⟩)]) (by simp) (by simp [go_sem]) ?_
   refine (catch_none w.heap.size (w.heap.size+1) [] _ _ _ (by omega) d0 z0 d1 z1).mono ?_
   rintro e u' w3 ⟨rfl,rfl,o,rfl⟩
   have g3:Grows w ((((w2.setCell ⟨w.heap.size+1+1,1,none⟩ (.slice A f.len cap)).setCell ⟨w.heap.size,0,none⟩ (.pointer none)).setCell ⟨w.heap.size+1,0,none⟩ (.int .i64 90)).alloc o):=((hGW.setCell (p:=⟨w.heap.size,0,none⟩) (Nat.le_refl _) _).setCell (p:=⟨w.heap.size+1,0,none⟩) (Nat.le_succ _) _).alloc o
   simp [Leaves,settle,results,Tryz.results8,go_sem,ParsedPost,d0,d1,ir,ie,g3]
end Go.Proofs.YtnjagecmhdagkaaGreatDoor
namespace Go.Proofs.YtnjagecmhdagkaaGreatDoor
open Go.RowKit
section
variable {ok:Nat→Prop} {w:World} {g:Nat} {f:Fr} {t:PS}
theorem ReAt.grows {w':World} (h:ReAt ok w g f t) (hg:Grows w w'):ReAt ok w' g f t:=by
 obtain ⟨A,cap,h1,h2⟩:=h.tree
 have hc:∀ {i v},w.cell? ⟨g,i,none⟩=some v→w'.cell? ⟨g,i,none⟩=some v:=fun {i v} h=>by
  obtain ⟨m,rfl⟩:=hg
  rw [cell_more _ _ _ (World.block_lt_of_cell? w _ h)]
  exact h
 exact ⟨⟨A,cap,hc h1,h2.grows hg⟩,hc h.groups,hc h.parts,hc h.refs⟩
theorem refs_any (h:ReAt ok w g f t):Calls Tryz.prog 14 #[.pointer (some ⟨g,1,none⟩)] w fun e w'=>e=.returned (.bool t.refs)∧w=w':=by
 have h1:=h.refs
 have ig:InHeap g w:=World.block_lt_of_cell? _ _ h1
 go_enter Tryz.func14,Tryz.ntmps14
 go_wp2_with fail
 go_ret
 exact ⟨rfl,rfl⟩
end
end Go.Proofs.YtnjagecmhdagkaaGreatDoor
namespace Go.Proofs.YtnjagecmhdagkaaGreatDoor
open Go.RowKit
def bldS0 (x:Array (Nat × Value)):Sem Value:=Instr.buildSlice 48 0 x
theorem bldS0_eq (x:Array (Nat × Value)):Instr.buildSlice 48 0 x=bldS0 x:=rfl
theorem bldS0_run (w:World):(bldS0 #[]).run Tryz.prog w=.ok (.slice (some ⟨w.heap.size,0,none⟩) 0 0) (w.alloc (.cells #[] 95)):=by kernel_rfl
attribute [local go_sem ↓] bldS0_eq
attribute [local go_sem] bldS0_run
theorem eqlSome (w:World) (a:Addr) (n cap:Nat):(binOp .eql 48 (.slice (some a) n cap) (.slice none 0 0)).run Tryz.prog w=.ok (.bool false) w:=by kernel_rfl
theorem eqlNone (w:World):(binOp .eql 48 (.slice none 0 0) (.slice none 0 0)).run Tryz.prog w=.ok (.bool true) w:=by kernel_rfl
attribute [local go_sem] eqlSome eqlNone
theorem own_empty (w:World) (t:TypeId) (n:Nat):(w.alloc (.cells #[] t)).ownsRow w.heap.size t n (.slice (some ⟨w.heap.size,0,none⟩) 0 0) 0 [] :=
 ⟨by simp,.inr ⟨w.heap.size,0,#[],rfl,Nat.le_refl _,World.alloc_heap_new _ _,Nat.le_refl _,by unfold maxLen;omega,by simp,by simp⟩⟩
theorem FrRow.one {ok:Nat→Prop} {w:World}:∀ {f:Fr} {xs:List Value},FrRow ok w f xs→∀ v ∈ xs,v.oneCell'=true:=by
 intro f
 induction f with
 | nil=>intro xs h;cases h;simp
 | cons x k r _ ihr =>
  rintro xs ⟨A,cap,ys,zs,e,h1,h2,h3⟩ v hv
  rw [e] at hv
  rcases List.mem_append.1 hv with hv | hv
  ·have:=ndA_one_slice (x.kind) (x.byte) x.set (x.n) (x.mn) x.mx A k.len cap
   unfold OneCells at this
   rw [Array.all_eq_true_iff_forall_mem] at this
   exact this v (by simpa using hv)
  ·exact ihr h3 v hv
set_option maxHeartbeats 1000000 in
theorem cloneNd (a:Addr) (cap n:Nat) (xs:List Value) (w:World) (hA:Rd w 262 (some a) n xs) (hn:n≤1000000) (h0:0 < n) (h1:∀ v ∈ xs,v.oneCell'=true) :
  Calls Tryz.prog 64 #[.slice (some a) n cap] w fun e w'=>∃ v,e=.returned v∧w'.ownsRow w.heap.size 95 262 v n xs∧Grows w w':=by
 obtain ⟨i0,hi,hz0,hz1,hz2⟩:=infoNode
 obtain ⟨b,o,e,hb,hc⟩:=hA.2 h0
 injection e with e
 subst e
 have hlen:=hA.1
 have hc2:∀ (j:Nat) u,xs[j]?=some u→(w.alloc (.cells #[] 95)).cell? ((⟨b,o,none⟩:Addr).add j)=some u:=fun j u hu=>by
  rw [add_off,cell_alloc_in _ _ _ _ hb];exact hc j u hu
 clear hA hc
 go_enter Tryz.func64,Tryz.ntmps64
 go_wp2_with (at_builtin;go_must (refine wpList_append_lies _ rfl (.tmp 5) (.tmp 6) 48 rfl w.heap.size 95 i0 (.agg zN) 262 320 Tryz.underlying48 hi hz0 hz1 hz2 (ndA_size _ _ _ _ _ _ _) (by decide) (.slice (some ⟨w.heap.size,0,none⟩) 0 0) 0 [] (by simp [Act.eval,Act.put]) (own_empty w _ _) ⟨b,o,none⟩ n cap xs (by simp [Act.eval,Act.put]) hlen hc2 h1 h0 (by unfold maxLen;omega) (by omega) (by simp) _ rfl ?_;intro e9 cap9 w9 hown9 hC9 hl9 hlt9))
 go_ret
 refine ⟨_,rfl,by simpa using hown9,?_⟩
 have:=chg_grown hC9
 exact Chg.grows (n:=0) ((Grows.refl w).alloc (.cells #[] 95)) this fun b hb=>by cases hb;exact Nat.le_refl _
theorem cloneNil (cap:Nat) (w:World):Calls Tryz.prog 64 #[.slice none 0 0] w fun e w'=>e=.returned (.slice none 0 0)∧w=w':=by
 go_enter Tryz.func64,Tryz.ntmps64
 go_wp2_with fail
 go_ret
 exact ⟨rfl,rfl⟩
theorem cloneZero (a:Addr) (cap:Nat) (w:World):Calls Tryz.prog 64 #[.slice (some a) 0 cap] w fun e w'=>∃ v,e=.returned v∧w'.ownsRow w.heap.size 95 262 v 0 []∧Grows w w':=by
 go_enter Tryz.func64,Tryz.ntmps64
 go_wp2_with fail
 go_ret
 exact ⟨_,rfl,own_empty w _ _,(Grows.refl w).alloc _⟩
end Go.Proofs.YtnjagecmhdagkaaGreatDoor
namespace Go.Proofs.YtnjagecmhdagkaaGreatDoor
open Go.RowKit
def Fr.size:Fr→Nat
 | .nil=>0
 | .cons _ k r=>k.size+r.size+1
theorem Fr.size_app (a b:Fr):(a.app b).size=a.size+b.size:=by
 induction a with
 | nil=>simp [Fr.app,Fr.size]
 | cons x k r _ ih=>simp [Fr.app,Fr.size,ih];omega
theorem Fr.len_size:∀ f:Fr,f.len≤f.size
 | .nil=>Nat.le_refl _
 | .cons _ k r=>by have:=r.len_size;simp [Fr.len,Fr.size];omega
theorem Fr.nil_of_len {f:Fr} (h:f.len=0):f=.nil:=by
 cases f with
 | nil=>rfl
 | cons x k r=>simp [Fr.len] at h
theorem FrRow.head {ok:Nat→Prop} {w:World} {x:NdV} {kids rest:Fr} {xs:List Value} (h:FrRow ok w (.cons x kids rest) xs) :
  ∃ A cap ys zs,xs=(ndC x (.slice A kids.len cap)).toList++zs∧Sl ok w A cap kids.len ys∧FrRow ok w kids ys∧FrRow ok w rest zs:=h
def Twin2 (w:World) (f:Fr) (e:Ending) (w':World):Prop:=∃ A cap,e=.returned (.slice A f.len cap)∧FrAt (fun b=>w.heap.size≤b) w' A cap f∧Grows w w'
structure TwinAt (w wr:World) (g:Nat) (f:Fr) (i:Nat) (a c:Fr) (xs ys tl:List Value):Prop where
 all:f=a.app c
 len:a.len=i
 cells:blk wr g=(xs++ys++tl).toArray
 low:w.heap.size≤g
 done:FrRow (fun b=>w.heap.size≤b∧b≠g) wr a xs
 todo:FrRow (fun b=>b < w.heap.size) wr c ys
 grown:Grows w wr
theorem set_kids (x:NdV) (k k':Value) (xs zs tl:List Value) (o:Nat) (ho:o=xs.length+261):(xs++((ndC x k).toList++zs)++tl).set o k'=xs++((ndC x k').toList++zs)++tl:=by
 have e:∀ k:Value,(ndC x k).toList=(.int .i64 x.kind::.int .u8 x.byte::(SA x.set).toList++[.int .i64 x.n,.int .i64 x.mn,.int .i64 x.mx])++[k]:=fun k=>by rw [ndA_list];simp
 subst ho
 rw [e,e]
 simp only [List.append_assoc]
 rw [List.set_append_right _ _ (by omega),Nat.add_sub_cancel_left,List.set_append_right _ _ (by simp)]
 simp
theorem get_kids (x:NdV) (k:Value) (xs zs tl:List Value) (o:Nat) (ho:o=xs.length+261):(xs++((ndC x k).toList++zs)++tl)[o]?=some k:=by
 subst ho
 rw [List.append_assoc,List.getElem?_append_right (by omega),Nat.add_sub_cancel_left,List.append_assoc,List.getElem?_append_left (by simp [ndA_size]),Array.getElem?_toList]
 exact ndA_261 _ _ _ _ _ _ _
theorem TwinAt.step {w wr w2:World} {g i:Nat} {f a:Fr} {xs tl zs:List Value} {x:NdV} {kids rest:Fr} {A A':Option Addr} {cap cap':Nat}
  (h:TwinAt w wr g f i a (.cons x kids rest) xs ((ndC x (.slice A kids.len cap)).toList++zs) tl) (hz:FrRow (fun b=>b < w.heap.size) wr rest zs)
  (hg:Grows wr w2) (hk:FrAt (fun b=>wr.heap.size≤b) w2 A' cap' kids) (o:Nat) (ho:o=i*262+261) :
  TwinAt w (w2.setCell ⟨g,o,none⟩ (.slice A' kids.len cap')) g f (i+1) (a.app (.cons x kids .nil)) rest (xs++(ndC x (.slice A' kids.len cap')).toList) zs tl:=by
 have hx:=h.done.len
 rw [h.len] at hx
 have hz1:0 < (blk wr g).size:=by rw [h.cells];simp [ndA_size];omega
 have ig:=Blk.inHeap (c:=blk wr g) rfl hz1
 have hb2:blk w2 g=blk wr g:=by obtain ⟨m,rfl⟩:=hg;exact blk_more _ _ _ ig
 have hc:=chg_cell w2 g o (.slice A' kids.len cap')
 obtain ⟨ys,h1,h2⟩:=hk
 refine ⟨?_,?_,?_,h.low,?_,?_,?_⟩
 ·rw [Fr.app_assoc];exact h.all
 ·rw [Fr.len_app,h.len];rfl
 ·rw [pa_put (hb2.trans h.cells) (by simp [ndA_size];omega)]
  apply Array.toList_inj.1
  rw [Array.toList_setIfInBounds]
  rw [set_kids x _ _ xs zs tl o (by omega)]
  simp
 ·refine FrRow.app ?_ ⟨A',cap',ys,[],by simp,?_,?_,rfl⟩
  ·exact ((h.done.chg (Chg.of_grows (p:=fun _=>False) hg) fun _ _ _ k=>k)).chg hc fun b _ hb=>hb.2
  ·exact ((h1.chg hc fun b _ hb e=>by subst e;exact absurd ig (Nat.not_lt.2 hb))).mono fun b _ hb=>⟨Nat.le_trans h.grown.below.size hb,fun e=>by subst e;exact absurd ig (Nat.not_lt.2 hb)⟩
  ·exact ((h2.chg hc fun b _ hb e=>by subst e;exact absurd ig (Nat.not_lt.2 hb))).mono fun b _ hb=>⟨Nat.le_trans h.grown.below.size hb,fun e=>by subst e;exact absurd ig (Nat.not_lt.2 hb)⟩
 ·exact (hz.chg (Chg.of_grows (p:=fun _=>False) hg) fun _ _ _ k=>k).chg hc fun b _ hb e=>by subst e;exact absurd hb (Nat.not_lt.2 h.low)
 ·exact Chg.grows (n:=0) (h.grown.trans hg) hc fun b e=>by subst e;exact h.low
theorem TwinAt.head {w wr:World} {g i:Nat} {f a:Fr} {xs ys tl:List Value} {x:NdV} {kids rest:Fr} (h:TwinAt w wr g f i a (.cons x kids rest) xs ys tl) :
  ∃ A cap yk zs,TwinAt w wr g f i a (.cons x kids rest) xs ((ndC x (.slice A kids.len cap)).toList++zs) tl∧Sl (fun b=>b < w.heap.size) wr A cap kids.len yk∧FrRow (fun b=>b < w.heap.size) wr kids yk∧FrRow (fun b=>b < w.heap.size) wr rest zs:=by
 obtain ⟨A,cap,yk,zs,e,h1,h2,h3⟩:=FrRow.head h.todo
 rw [e] at h
 exact ⟨A,cap,yk,zs,h,h1,h2,h3⟩
set_option maxHeartbeats 1000000 in
theorem twin_none (w:World):Calls Tryz.prog 39 #[.slice none 0 0] w (Twin2 w .nil):=by
 go_enter Tryz.func39,Tryz.ntmps39
 go_wp2_with fail
 (with_reducible refine (cloneNil 0 w).mono ?_)
 rintro e w1 ⟨rfl,hw⟩
 subst hw
 go_wp2_with fail
 go_loopg [3,8] 0 (fun q _ v8 wr=>v8=.int .i64 0∧wr=w)
 case atStart=>exact ⟨rfl,rfl⟩
 case round =>
  obtain ⟨rfl,rfl⟩:=hrel
  go_wp2_with fail
  go_ret
  exact ⟨none,0,rfl,FrAt.zero _ _,Grows.refl _⟩
theorem twin_zero (a:Addr) (cap:Nat) (w:World):Calls Tryz.prog 39 #[.slice (some a) 0 cap] w (Twin2 w .nil):=by
 go_enter Tryz.func39,Tryz.ntmps39
 go_wp2_with fail
 (with_reducible refine (cloneZero a cap w).mono ?_)
 rintro e w1 ⟨v,rfl,hown,hg⟩
 obtain ⟨A,cap1,rfl,hf⟩:=FrAt.of_own (ok:=fun b=>w.heap.size≤b) (f:=.nil) hown (fun b hb=>hb) rfl
 have hf:=Lib.hid hf
 clear hown
 go_wp2_with fail
 go_loopg [3,8] 0 (fun q _ v8 wr=>v8=.int .i64 0∧wr=w1)
 case atStart=>exact ⟨rfl,rfl⟩
 case round =>
  obtain ⟨rfl,rfl⟩:=hrel
  go_wp2_with fail
  go_ret
  exact ⟨A,cap1,rfl,hf.out,hg⟩
end Go.Proofs.YtnjagecmhdagkaaGreatDoor
namespace Go.Proofs.YtnjagecmhdagkaaGreatDoor
open Go.RowKit
theorem node1_parts {s t:PS} (h:node1 s=some t):t.parts=s.parts+1∧t.parts≤200:=by
 obtain ⟨h1,rfl⟩:=node1_eq h
 exact ⟨rfl,h1⟩
theorem one_size (x:NdV) (k:Fr):(Fr.one x k).size=k.size+1:=by simp [Fr.one,Fr.size]
theorem timesV_size {n:Nat}:∀ {x:Nk} {s:PS} {y:Nk × PS},timesV n x s=some y→y.1.2.size+s.parts=x.2.size+y.2.parts∧(s.parts≤200→y.2.parts≤200):=by
 induction n with
 | zero=>intro x s y h;cases h
 | succ n ih =>
  intro x s y h
  unfold timesV at h
  split at h
  ·rw [Option.bind_eq_some_iff] at h
   obtain ⟨t,h1,h2⟩:=h
   have k1:=node1_parts h1
   have k2:=ih h2
   simp only [one_size] at k1 k2
   omega
  ·split at h
   ·rw [Option.bind_eq_some_iff] at h
    obtain ⟨b,hb,h⟩:=h
    rw [Option.bind_eq_some_iff] at h
    obtain ⟨t,h1,h2⟩:=h
    have k1:=node1_parts h1
    have k2:=ih h2
    simp only [one_size] at k1 k2
    omega
   ·injection h with h;subst h;exact ⟨rfl,fun h=>h⟩
theorem more1_size {x:Nk} {s:PS} {y:Nk × PS} (h:more1 x s=some y):y.1.2.size+s.parts=x.2.size+y.2.parts∧(s.parts≤200→y.2.parts≤200):=by
 unfold more1 at h
 split at h
 ·injection h with h;subst h;exact ⟨rfl,fun h=>h⟩
 ·exact timesV_size h
def RowSz (row:PS→Option (Fr × PS)):Prop:=∀ s y,row s=some y→y.1.size+s.parts=y.2.parts∧(s.parts≤200→y.2.parts≤200)
section
variable {row:PS→Option (Fr × PS)}
theorem selfV_size {c:Nat} {s:PS} {y:Nk × PS} (h:selfV c s=some y):y.1.2.size+s.parts+1=y.2.parts∧y.2.parts≤200:=by
 unfold selfV at h
 rw [Option.map_eq_some_iff] at h
 obtain ⟨t,h1,rfl⟩:=h
 have:=node1_parts h1
 simp [Fr.size];omega
theorem leaf_size {s:PS} {x:NdV} {y:Nk × PS} (h:(node1 s).map (fun s=>((x,Fr.nil),s))=some y):y.1.2.size+s.parts+1=y.2.parts∧y.2.parts≤200:=by
 rw [Option.map_eq_some_iff] at h
 obtain ⟨t,h1,rfl⟩:=h
 have:=node1_parts h1
 simp [Fr.size];omega
theorem groupV_size (hr:RowSz row) {s:PS} {y:Nk × PS} (h:groupV row s=some y):y.1.2.size+s.parts+1=y.2.parts∧y.2.parts≤200:=by
 unfold groupV at h
 split at h
 ·rw [Option.bind_eq_some_iff] at h
  obtain ⟨t,h1,h⟩:=h
  rw [Option.bind_eq_some_iff] at h
  obtain ⟨z,h2,h⟩:=h
  split at h
  ·injection h with h
   subst h
   have k1:=node1_parts h1
   have k:=hr _ _ h2
   simp only [] at k k1 ⊢
   omega
  ·cases h
 ·cases h
theorem slashV_size (hr:RowSz row) {s:PS} {y:Nk × PS} (h:slashV row s=some y):y.1.2.size+s.parts+1=y.2.parts∧y.2.parts≤200:=by
 obtain ⟨left,parts,groups,refs,op⟩:=s
 cases left with
 | nil=>cases h
 | cons c l =>
  unfold slashV at h
  simp only [] at h
  split at h
  ·(have k:=groupV_size hr h;exact k)
  ·split at h
   ·split at h
    ·(have k:=leaf_size h;exact k)
    ·cases h
   ·split at h
    ·cases h
    ·(have k:=selfV_size h;exact k)
theorem partW_size (hr:RowSz row) {first begun:Bool} {s:PS} {y:Nk × PS} (h:partW row first begun s=some y):y.1.2.size+s.parts+1=y.2.parts∧y.2.parts≤200:=by
 obtain ⟨left,parts,groups,refs,op⟩:=s
 cases left with
 | nil=>cases h
 | cons c l =>
  unfold partW at h
  simp only [] at h
  split at h
  ·(have k:=slashV_size hr h;exact k)
  ·split at h
   ·rw [Option.bind_eq_some_iff] at h
    obtain ⟨p,hp,h⟩:=h
    (have k:=leaf_size h;exact k)
   ·split at h
    ·(have k:=leaf_size h;exact k)
    ·split at h
     ·(have k:=leaf_size h;exact k)
     ·split at h
      ·(have k:=leaf_size h;exact k)
      ·split at h
       ·cases h
       ·(have k:=selfV_size h;exact k)
end
theorem rowV_size (n:Nat):∀ {first begun:Bool} {s:PS} {y:Fr × PS},rowV n first begun s=some y→y.1.size+s.parts=y.2.parts∧(s.parts≤200→y.2.parts≤200):=by
 induction n with
 | zero=>intro f b s y h;cases h
 | succ n ih =>
  intro f b s y h
  unfold rowV at h
  split at h
  ·injection h with h;subst h;exact ⟨by simp [Fr.size],fun h=>h⟩
  ·rw [Option.bind_eq_some_iff] at h
   obtain ⟨a,h1,h⟩:=h
   rw [Option.bind_eq_some_iff] at h
   obtain ⟨c,h2,h⟩:=h
   rw [Option.map_eq_some_iff] at h
   obtain ⟨r,h3,rfl⟩:=h
   have k1:=partW_size (fun s y h=>ih h) h1
   have k2:=more1_size h2
   have k3:r.1.size+c.2.parts=r.2.parts∧(c.2.parts≤200→r.2.parts≤200):=ih h3
   simp only [Fr.size]
   omega
theorem patV_size {l:List UInt8} {y:Fr × PS} (h:patV l=some y):y.1.size=y.2.parts∧y.2.parts≤200:=by
 unfold patV at h
 rw [Option.bind_eq_some_iff] at h
 obtain ⟨z,h1,h2⟩:=h
 have:=rowV_size _ h1
 split at h2
 ·injection h2 with h2;subst h2;simpa [ps0] using this
 ·cases h2
end Go.Proofs.YtnjagecmhdagkaaGreatDoor
namespace Go.Proofs.YtnjagecmhdagkaaGreatDoor
open Go.RowKit
structure ReZ (w:World) (g:Nat):Prop where
 tree:w.cell? ⟨g,0,none⟩=some (.slice none 0 0)
 groups:w.cell? ⟨g,1,none⟩=some (.int .i64 0)
 parts:w.cell? ⟨g,2,none⟩=some (.int .i64 0)
 refs:w.cell? ⟨g,3,none⟩=some (.bool false)
section
variable {w:World} {g:Nat}
theorem ReZ.grows {w':World} (h:ReZ w g) (hg:Grows w w'):ReZ w' g:=by
 have hc:∀ {i v},w.cell? ⟨g,i,none⟩=some v→w'.cell? ⟨g,i,none⟩=some v:=fun {i v} h=>by
  obtain ⟨m,rfl⟩:=hg
  rw [cell_more _ _ _ (World.block_lt_of_cell? w _ h)]
  exact h
 exact ⟨hc h.tree,hc h.groups,hc h.parts,hc h.refs⟩
end
end Go.Proofs.YtnjagecmhdagkaaGreatDoor
namespace Go.Proofs.YtnjagecmhdagkaaGreatDoor
open Go.RowKit
theorem FrRow.node {ok:Nat→Prop} {w:World} {x:NdV} {kids rest:Fr}:∀ {a:Fr} {xs:List Value},FrRow ok w (a.app (.cons x kids rest)) xs →
  ∃ K capk,FrAt ok w K capk kids∧∀ j u,(ndC x (.slice K kids.len capk))[j]?=some u→xs[a.len*262+j]?=some u:=by
 intro a
 induction a with
 | nil =>
  intro xs h
  obtain ⟨K,capk,ys,zs,e,h1,h2,h3⟩:=FrRow.head h
  refine ⟨K,capk,⟨ys,h1,h2⟩,fun j u hu=>?_⟩
  have hj:=(Array.getElem?_eq_some_iff.1 hu).1
  rw [e,Fr.len,Nat.zero_mul,Nat.zero_add,List.getElem?_append_left (by simpa using hj),Array.getElem?_toList]
  exact hu
 | cons z k r _ ihr =>
  intro xs h
  obtain ⟨K0,cap0,ys,zs,e,h1,h2,h3⟩:=FrRow.head h
  obtain ⟨K,capk,h4,h5⟩:=ihr h3
  refine ⟨K,capk,h4,fun j u hu=>?_⟩
  have hz:(ndC z (.slice K0 k.len cap0)).toList.length=262:=by simp [ndA_size]
  have hu2:=h5 j u hu
  rw [e]
  generalize (ndC z (.slice K0 k.len cap0)).toList=zl at hz
  have hi:(Fr.cons z k r).len*262+j=zl.length+(r.len*262+j):=by rw [hz,Fr.len];omega
  rw [hi,List.getElem?_append_right (Nat.le_add_right _ _),Nat.add_sub_cancel_left]
  exact hu2
theorem FrAt.node {ok:Nat→Prop} {w:World} {A:Option Addr} {cap:Nat} {x:NdV} {kids rest a f:Fr} (h:FrAt ok w A cap f) (e:f=a.app (.cons x kids rest)) {b o:Nat} (hA:A=some ⟨b,o,none⟩) :
  ∃ K capk,FrAt ok w K capk kids∧∀ j u,(ndC x (.slice K kids.len capk))[j]?=some u→w.cell? ⟨b,o+(a.len*262+j),none⟩=some u:=by
 subst e
 obtain ⟨xs,h1,h2⟩:=h
 obtain ⟨K,capk,h3,h4⟩:=h2.node
 refine ⟨K,capk,h3,fun j u hu=>?_⟩
 have hlt:0 < (a.app (.cons x kids rest)).len:=by rw [Fr.len_app,Fr.len];omega
 obtain ⟨b',o',e,_,hc⟩:=h1.rd.2 hlt
 have hu2:=h4 j u hu
 clear h4 hu h1 h2
 have e2:(⟨b,o,none⟩:Addr)=⟨b',o',none⟩:=Option.some.inj (hA.symm.trans e)
 have e3:b=b':=congrArg Addr.block e2
 have e4:o=o':=congrArg Addr.off e2
 rw [e3,e4]
 exact hc (a.len*262+j) u hu2
theorem FrAt.some {ok:Nat→Prop} {w:World} {A:Option Addr} {cap:Nat} {f:Fr} (h:FrAt ok w A cap f) (hp:0 < f.len):∃ b o,A=some ⟨b,o,none⟩∧InHeap b w:=by
 obtain ⟨xs,h1,h2⟩:=h
 obtain ⟨b,o,e,hb,_⟩:=h1.rd.2 hp
 exact ⟨b,o,e,hb⟩
end Go.Proofs.YtnjagecmhdagkaaGreatDoor
namespace Go.Proofs.YtnjagecmhdagkaaGreatDoor
open Go.RowKit
structure WS where
 groups:Nat
 ended:Nat→Bool
 refs:Bool
def orAt (p:Nat→Bool) (n:Nat):Nat→Bool:=fun i=>p i || decide (i=n)
theorem orAt_iff (p:Nat→Bool) (n i:Nat):orAt p n i=true ↔ p i=true∨i=n:=by simp [orAt]
def GoodF:Fr→WS→WS→Prop
 | .nil,s,t=>t=s
 | .cons x k r,s,t=>∃ m,((x.kind=7∧x.n=s.groups+1∧x.n≤9∧∃ m1,GoodF k { s with groups:=s.groups+1 } m1∧m={ m1 with ended:=orAt m1.ended x.n }) ∨
   (x.kind=6∧1≤x.n∧x.n≤9∧s.ended x.n=true∧k=.nil∧m={ s with refs:=true }) ∨
   (x.kind=8∧k.len=1∧x.mn≤255∧-1≤x.mx∧x.mx≤255∧(x.mx < 0∨(x.mn:Int)≤x.mx)∧GoodF k s m) ∨
   (1≤x.kind∧x.kind≤5∧k=.nil∧m=s))∧GoodF r m t
def GoodN (x:Nk) (s t:WS):Prop:=GoodF (Fr.one x.1 x.2) s t
theorem GoodF.one {x:NdV} {k:Fr} {s t:WS} (h:GoodF (Fr.one x k) s t):(x.kind=7∧x.n=s.groups+1∧x.n≤9∧∃ m1,GoodF k { s with groups:=s.groups+1 } m1∧t={ m1 with ended:=orAt m1.ended x.n }) ∨
   (x.kind=6∧1≤x.n∧x.n≤9∧s.ended x.n=true∧k=.nil∧t={ s with refs:=true }) ∨
   (x.kind=8∧k.len=1∧x.mn≤255∧-1≤x.mx∧x.mx≤255∧(x.mx < 0∨(x.mn:Int)≤x.mx)∧GoodF k s t) ∨
   (1≤x.kind∧x.kind≤5∧k=.nil∧t=s):=by
 obtain ⟨m,h,e⟩:=h
 have e:t=m:=e
 subst e
 exact h
theorem GoodF.cons {x:NdV} {k r:Fr} {s m t:WS} (h:GoodN (x,k) s m) (hr:GoodF r m t):GoodF (.cons x k r) s t:=⟨m,h.one,hr⟩
structure Meet (s:PS) (v:WS):Prop where
 groups:v.groups=s.groups
 refs:v.refs=s.refs
 ended:∀ n,1≤n→n≤9→(v.ended n=true ↔ n≤s.groups∧n ∉ s.op)
 op:∀ n ∈ s.op,n≤s.groups
theorem Meet.same {s t:PS} {v:WS} (h:Meet s v) (h1:t.groups=s.groups) (h2:t.refs=s.refs) (h3:t.op=s.op):Meet t v :=
 ⟨h.groups.trans h1.symm,h.refs.trans h2.symm,by rw [h1,h3];exact h.ended,by rw [h1,h3];exact h.op⟩
theorem bounds_good {l:List UInt8} {b:Nat × Int × List UInt8} (h:boundsV l=some b):b.1≤255∧-1≤b.2.1∧b.2.1≤255∧(b.2.1 < 0∨(b.1:Int)≤b.2.1):=by
 unfold boundsV at h
 simp only [] at h
 split at h
 ·rename_i hc
  injection h with h
  subst h
  refine ⟨hc.2.2.1,?_,hc.2.2.2.1,hc.2.2.2.2⟩
  simp only []
  unfold mostV
  split
  ·split <;> simp only [] <;> omega
  ·simp only [];omega
 ·cases h
section
variable {row:PS→Option (Fr × PS)}
end
def ws0:WS:=⟨0,fun _=>false,false⟩
end Go.Proofs.YtnjagecmhdagkaaGreatDoor
