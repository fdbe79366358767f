/-
 Several texts of the proof: BreAt, BreStep, Trim, BreNum, BreSelf.
-/
import Derived.Test.YtnjagecmhdagkaaGreatDoorPk08
import Derived.Test.YtnjagecmhdagkaaGreatDoorPk00
import Derived.Test.YtnjagecmhdagkaaGreatDoorPk04
import Derived.Deep.LoopGhost
import Derived.Laws.RangeString
set_option linter.unusedSimpArgs false
set_option linter.unusedVariables false
set_option maxRecDepth 3000
/-
  Patterns in memory: rows of nodes, the parser.
-/
namespace Go.Proofs.YtnjagecmhdagkaaGreatDoor
open Go.RowKit
structure Sl (ok:Nat→Prop) (w:World) (A:Option Addr) (cap n:Nat) (xs:List Value):Prop where
 rd:Rd w 262 A n xs
 nil:A=none→n=0∧cap=0
 le:n≤cap
 cap63:cap≤9223372036854775807
 ok:0 < n→∀ a,A=some a→ok a.block
section
variable {ok ok2 q:Nat→Prop} {w w':World} {A:Option Addr} {cap n:Nat} {xs:List Value}
theorem Sl.chg (h:Sl ok w A cap n xs) (hc:Chg q w w') (hp:∀ b,b < w.heap.size→ok b→¬ q b):Sl ok w' A cap n xs :=
 ⟨h.rd.chg hc fun hn a e=>hp _ (by obtain ⟨b,o,e2,hb,_⟩:=h.rd.2 hn;rw [e] at e2;cases e2;exact hb) (h.ok hn a e),h.nil,h.le,h.cap63,h.ok⟩
theorem Sl.mono (h:Sl ok w A cap n xs) (ho:∀ b,b < w.heap.size→ok b→ok2 b):Sl ok2 w A cap n xs :=
 ⟨h.rd,h.nil,h.le,h.cap63,fun hn a e=>ho _ (by obtain ⟨b,o,e2,hb,_⟩:=h.rd.2 hn;rw [e] at e2;cases e2;exact hb) (h.ok hn a e)⟩
theorem Sl.zero (ok:Nat→Prop) (w:World):Sl ok w none 0 0 []:=⟨Rd.nil_,fun _=>⟨rfl,rfl⟩,Nat.le_refl _,by omega,fun h=>absurd h (Nat.lt_irrefl _)⟩
def FrRow (ok:Nat→Prop) (w:World):Fr→List Value→Prop
 | .nil,xs=>xs=[]
 | .cons x kids rest,xs=>∃ A cap ys zs,xs=(ndC x (.slice A kids.len cap)).toList++zs∧Sl ok w A cap kids.len ys∧FrRow ok w kids ys∧FrRow ok w rest zs
theorem FrRow.chg (hc:Chg q w w') (hp:∀ b,b < w.heap.size→ok b→¬ q b):∀ {f:Fr} {xs:List Value},FrRow ok w f xs→FrRow ok w' f xs:=by
 intro f
 induction f with
 | nil=>exact fun h=>h
 | cons x k r ihk ihr =>
  rintro xs ⟨A,cap,ys,zs,e,h1,h2,h3⟩
  exact ⟨A,cap,ys,zs,e,h1.chg hc hp,ihk h2,ihr h3⟩
theorem FrRow.mono (ho:∀ b,b < w.heap.size→ok b→ok2 b):∀ {f:Fr} {xs:List Value},FrRow ok w f xs→FrRow ok2 w f xs:=by
 intro f
 induction f with
 | nil=>exact fun h=>h
 | cons x k r ihk ihr =>
  rintro xs ⟨A,cap,ys,zs,e,h1,h2,h3⟩
  exact ⟨A,cap,ys,zs,e,h1.mono ho,ihk h2,ihr h3⟩
theorem FrRow.app {b:Fr} {ys:List Value}:∀ {a:Fr} {xs:List Value},FrRow ok w a xs→FrRow ok w b ys→FrRow ok w (a.app b) (xs++ys):=by
 intro a
 induction a with
 | nil=>intro xs h k;cases h;exact k
 | cons x k r _ ihr =>
  rintro xs ⟨A,cap,us,zs,e,h1,h2,h3⟩ hb
  exact ⟨A,cap,us,zs++ys,by rw [e,List.append_assoc],h1,h2,ihr h3 hb⟩
theorem FrRow.len:∀ {f:Fr} {xs:List Value},FrRow ok w f xs→xs.length=f.len*262:=by
 intro f
 induction f with
 | nil=>intro xs h;cases h;rfl
 | cons x k r _ ihr =>
  rintro xs ⟨A,cap,us,zs,e,h1,h2,h3⟩
  have:=ihr h3
  rw [e,List.length_append,Array.length_toList,ndA_size,this]
  simp only [Fr.len];omega
def FrAt (ok:Nat→Prop) (w:World) (A:Option Addr) (cap:Nat) (f:Fr):Prop:=∃ xs,Sl ok w A cap f.len xs∧FrRow ok w f xs
theorem FrAt.chg {f:Fr} (h:FrAt ok w A cap f) (hc:Chg q w w') (hp:∀ b,b < w.heap.size→ok b→¬ q b):FrAt ok w' A cap f:=by
 obtain ⟨xs,h1,h2⟩:=h
 exact ⟨xs,h1.chg hc hp,h2.chg hc hp⟩
theorem FrAt.mono {f:Fr} (h:FrAt ok w A cap f) (ho:∀ b,b < w.heap.size→ok b→ok2 b):FrAt ok2 w A cap f:=by
 obtain ⟨xs,h1,h2⟩:=h
 exact ⟨xs,h1.mono ho,h2.mono ho⟩
theorem FrAt.grows {f:Fr} (h:FrAt ok w A cap f) (hg:Grows w w'):FrAt ok w' A cap f:=h.chg (Chg.of_grows (p:=fun _=>False) hg) fun _ _ _ h=>h
theorem FrAt.zero (ok:Nat→Prop) (w:World):FrAt ok w none 0 .nil:=⟨[],Sl.zero ok w,rfl⟩
def NkAt (ok:Nat→Prop) (w:World) (v:Value) (y:Nk):Prop:=∃ A cap,v=.agg (ndC y.1 (.slice A y.2.len cap))∧FrAt ok w A cap y.2
theorem NkAt.chg {v:Value} {y:Nk} (h:NkAt ok w v y) (hc:Chg q w w') (hp:∀ b,b < w.heap.size→ok b→¬ q b):NkAt ok w' v y:=by
 obtain ⟨A,cap,e,h⟩:=h
 exact ⟨A,cap,e,h.chg hc hp⟩
theorem NkAt.mono {v:Value} {y:Nk} (h:NkAt ok w v y) (ho:∀ b,b < w.heap.size→ok b→ok2 b):NkAt ok2 w v y:=by
 obtain ⟨A,cap,e,h⟩:=h
 exact ⟨A,cap,e,h.mono ho⟩
theorem NkAt.leaf (ok:Nat→Prop) (w:World) (x:NdV):NkAt ok w (.agg (ndC x (.slice none 0 0))) (x,.nil):=⟨none,0,rfl,FrAt.zero ok w⟩
theorem FrAt.of_own {base:Nat} {v:Value} {f:Fr} (h:w.ownsRow base 95 262 v f.len xs) (ho:∀ b,base≤b→ok b) (hf:FrRow ok w f xs):∃ A cap,v=.slice A f.len cap∧FrAt ok w A cap f:=by
 rcases h with ⟨hl,⟨rfl,h0⟩ | ⟨g,cap,cur,rfl,hb,hh,h1,h2,h3,h4⟩⟩
 ·rw [h0] at hl ⊢
  have:xs=[]:=List.length_eq_zero_iff.1 (by simpa using hl)
  subst this
  exact ⟨none,0,rfl,[],by rw [h0];exact Sl.zero ok w,hf⟩
 ·refine ⟨some ⟨g,0,none⟩,cap,rfl,xs,⟨⟨hl,fun _=>⟨g,0,rfl,(Array.getElem?_eq_some_iff.1 hh).1,fun j u hu=>?_⟩⟩,(fun e=>by cases e),h1,by unfold maxLen at h2;omega,fun _ a e=>by cases e;exact ho _ hb⟩,hf⟩
  rw [cell_of_row w g _ cur _ (0,0) hh,Nat.zero_add]
  rw [← h4,List.getElem?_take] at hu
  split at hu
  ·simpa using hu
  ·cases hu
end
def paC (l:List UInt8) (tv:Value) (gr pa:Int) (rf:Bool) (ov:Value):Array Value:=#[.string (tx l),tv,.int .i64 gr,.int .i64 pa,.bool rf,ov]
theorem paC_pos (l:List UInt8) (tv:Value) (gr pa:Int) (rf:Bool) (ov:Value):0 < (paC l tv gr pa rf ov).size:=by simp [paC]
def PaK (g:Nat) (ov:Value):Nat→Prop:=fun b=>b=g∨ov.ownBlock=some b
structure Pa (base:Nat) (w:World) (g:Nat) (tv ov:Value) (s:PS):Prop where
 cells:blk w g=paC s.left tv s.groups s.parts s.refs ov
 own:w.ownsRow base 3 1 ov s.op.length (s.op.map fun n:Nat=>Value.int .i64 n)
 ne:ov.ownBlock≠some g
 low:base≤g
 parts:s.parts≤200
 groups:s.groups≤9
 left:s.left.length≤1000000
 op:s.op.length≤s.groups
theorem chg_late {p q:Nat→Prop} {a b c:World} (h:Chg p a b) (k:Chg q b c) (hq:∀ x,x < a.heap.size→q x→p x):Chg p a c :=
 ⟨k.os.trans h.os,k.tape.trans h.tape,k.output.trans h.output,Nat.le_trans h.size k.size,fun x hx hp=>(k.block x (Nat.lt_of_lt_of_le hx h.size) (fun e=>hp (hq x hx e))).trans (h.block x hx hp)⟩
structure StepP (K K':Nat→Prop) (w w':World):Prop where
 chg:Chg K w w'
 new:∀ b,K' b→K b∨w.heap.size≤b
section
variable {base g:Nat} {w w' w2:World} {tv ov ov':Value} {s t:PS} {K K' K2 q:Nat→Prop}
theorem StepP.trans (h:StepP K K' w w') (k:StepP K' K2 w' w2):StepP K K2 w w2:=by
 refine ⟨chg_late h.chg k.chg fun b hb hk=>?_,fun b hb=>?_⟩
 ·rcases h.new b hk with h1 | h1
  ·exact h1
  ·omega
 ·rcases k.new b hb with h1 | h1
  ·exact h.new b h1
  ·exact .inr (Nat.le_trans h.chg.size h1)
theorem StepP.of_chg (h:Chg K w w'):StepP K K w w':=⟨h,fun _ h=>.inl h⟩
theorem StepP.of_grows (h:Grows w w'):StepP K K w w':=.of_chg (Chg.of_grows h)
theorem Pa.inh (h:Pa base w g tv ov s):InHeap g w:=Blk.inHeap h.cells (paC_pos _ _ _ _ _ _)
theorem Pa.free (h:Pa base w g tv ov s) (i:Nat):w.frozen? ⟨g,i,none⟩=false:=Blk.free h.cells (paC_pos _ _ _ _ _ _) i
theorem Pa.six (h:Pa base w g tv ov s):w.cell? ⟨g,0,none⟩=some (.string (tx s.left))∧w.cell? ⟨g,1,none⟩=some tv∧w.cell? ⟨g,2,none⟩=some (.int .i64 s.groups)∧w.cell? ⟨g,3,none⟩=some (.int .i64 s.parts)∧w.cell? ⟨g,4,none⟩=some (.bool s.refs)∧w.cell? ⟨g,5,none⟩=some ov:=by
 have hc:=fun i=>Blk.cell h.cells (paC_pos _ _ _ _ _ _) i
 exact ⟨hc 0,hc 1,hc 2,hc 3,hc 4,hc 5⟩
theorem Pa.self (h:Pa base w g tv ov s) (hc:Chg (fun b=>b=g) w w') (hb:blk w' g=paC t.left tv t.groups t.parts t.refs ov) (ho:t.op=s.op) (hp:t.parts≤200) (hg:t.groups≤9) (hgs:s.groups≤t.groups) (hl:t.left.length≤s.left.length):Pa base w' g tv ov t:=by
 refine ⟨hb,?_,h.ne,h.low,hp,hg,Nat.le_trans hl h.left,by rw [ho];exact Nat.le_trans h.op hgs⟩
 rw [ho]
 obtain ⟨h1,h2⟩:=h.own
 refine ⟨h1,h2.elim .inl ?_⟩
 rintro ⟨e,cap,cur,rfl,hb2,hh,r⟩
 exact .inr ⟨e,cap,cur,rfl,hb2,(hc.block e (Array.getElem?_eq_some_iff.1 hh).1 (fun e2=>h.ne (by rw [← e2];rfl))).trans hh,r⟩
theorem Pa.grows (h:Pa base w g tv ov s) (hg:Grows w w'):Pa base w' g tv ov s :=
 h.self (Chg.of_grows hg) (by obtain ⟨m,rfl⟩:=hg;rw [blk_more _ _ _ h.inh];exact h.cells) rfl h.parts h.groups (Nat.le_refl _) (Nat.le_refl _)
theorem Pa.own_lt (h:Pa base w g tv ov s) {b:Nat} (hb:PaK g ov b):b < w.heap.size:=by
 rcases hb with rfl | hb
 ·exact h.inh
 ·rcases h.own.2 with ⟨rfl,_⟩ | ⟨e,cap,cur,rfl,_,hh,_⟩
  ·cases hb
  ·cases hb;exact (Array.getElem?_eq_some_iff.1 hh).1
theorem Pa.own_low (h:Pa base w g tv ov s) {b:Nat} (hb:PaK g ov b):base≤b:=by
 rcases hb with rfl | hb
 ·exact h.low
 ·rcases h.own.2 with ⟨rfl,_⟩ | ⟨e,cap,cur,rfl,h1,_⟩
  ·cases hb
  ·cases hb;exact h1
end
def NkPost (base g:Nat) (tv ov:Value) (w:World) (r:Option (Nk × PS)) (e:Ending) (w':World):Prop :=
 match r with
 | none=>e=.panicked [{ v:=.iface 46 (.agg #[]),recovered:=false }]∧Chg (PaK g ov) w w'
 | some y=>∃ v ov',e=.returned v∧Pa base w' g tv ov' y.2∧StepP (PaK g ov) (PaK g ov') w w'∧NkAt (fun b=>w.heap.size≤b∧¬ PaK g ov' b) w' v y.1
def FrPost (base g:Nat) (tv ov:Value) (w:World) (r:Option (Fr × PS)) (e:Ending) (w':World):Prop :=
 match r with
 | none=>e=.panicked [{ v:=.iface 46 (.agg #[]),recovered:=false }]∧Chg (PaK g ov) w w'
 | some y=>∃ A cap ov',e=.returned (.slice A y.1.len cap)∧Pa base w' g tv ov' y.2∧StepP (PaK g ov) (PaK g ov') w w'∧FrAt (fun b=>w.heap.size≤b∧¬ PaK g ov' b) w' A cap y.1
end Go.Proofs.YtnjagecmhdagkaaGreatDoor
namespace Go.Proofs.YtnjagecmhdagkaaGreatDoor
open Go.RowKit
abbrev noneP:List PanicEntry:=[{ v:=.iface 46 (.agg #[]),recovered:=false }]
theorem must_ok (w:World):Calls Tryz.prog 19 #[.bool true] w fun e w'=>e=.returned (.tuple #[])∧w=w':=by
 go_enter Tryz.func19,Tryz.ntmps19
 go_wp2_with fail
 exact ⟨rfl,.tuple #[],results_none rfl _ _ _,rfl,rfl⟩
theorem must_no (w:World):Calls Tryz.prog 19 #[.bool false] w fun e w'=>e=.panicked noneP∧w=w':=by
 go_enter Tryz.func19,Tryz.ntmps19
 go_wp2_with fail
 exact ⟨rfl,rfl,rfl⟩
theorem pa_put {w:World} {g:Nat} {c:Array Value} (hb:blk w g=c) (hz:0 < c.size) (i:Nat) (v:Value):blk (w.setCell ⟨g,i,none⟩ v) g=c.setIfInBounds i v:=by
 rw [Blk.set hb hz];exact Blk.get _ hb hz
theorem chg_cell (w:World) (g i:Nat) (v:Value):Chg (fun b=>b=g) w (w.setCell ⟨g,i,none⟩ v):=Chg.setCell (p:=fun b=>b=g) rfl v
section
variable {base g:Nat} {w w':World} {tv ov:Value} {s:PS}
theorem Pa.setLeft (h:Pa base w g tv ov s) (l:List UInt8) (hl:l.length≤s.left.length) (x:ByteArray) (hx:x=tx l):Pa base (w.setCell ⟨g,0,none⟩ (.string x)) g tv ov { s with left:=l } :=
 h.self (t:={ s with left:=l }) (chg_cell w g 0 _) (by rw [pa_put h.cells (paC_pos _ _ _ _ _ _),hx];rfl) rfl h.parts h.groups (Nat.le_refl _) hl
theorem Pa.setParts (h:Pa base w g tv ov s) (n:Int) (hn:n=(s.parts+1:Nat)) (hp:s.parts+1≤200):Pa base (w.setCell ⟨g,3,none⟩ (.int .i64 n)) g tv ov { s with parts:=s.parts+1 } :=
 h.self (t:={ s with parts:=s.parts+1 }) (chg_cell w g 3 _) (by rw [pa_put h.cells (paC_pos _ _ _ _ _ _),hn];rfl) rfl hp h.groups (Nat.le_refl _) (Nat.le_refl _)
theorem take_at (h:Pa base w g tv ov s) (t:List UInt8) (b:Bool) (l:List UInt8) (hb:ahead t s.left=b) (hl:(if ahead t s.left then s.left.drop t.length else s.left)=l) (hn:l.length≤s.left.length) :
  Calls Tryz.prog 58 #[.pointer (some ⟨g,0,none⟩),.string (tx t)] w fun e w'=>e=.returned (.bool b)∧Pa base w' g tv ov { s with left:=l }∧Chg (fun b=>b=g) w w':=by
 have ig:=h.inh
 obtain ⟨q0,-⟩:=h.six
 have ff:=h.free
 have H2:=Lib.hid (h.setLeft l hn _ rfl)
 have hs:(⟨(Lib.trimPrefix s.left t).toArray⟩:ByteArray)=tx l:=hl ▸ rfl
 have ha:Lib.hasPrefix s.left t=b:=hb
 clear h hb hl
 go_enter Tryz.func58,Tryz.ntmps58
 go_wp2_with fail
 (with_reducible refine (Tryz.strings_CutPrefix _ _ _).mono ?_)
 rw [tx_data,tx_data,hs,ha]
 rintro e w1 ⟨rfl,rfl⟩
 clear hs ha
 go_wp2_with fail
 go_ret
 exact ⟨rfl,H2.out,chg_cell _ _ _ _⟩
theorem take_yes (h:Pa base w g tv ov s) (t:List UInt8) (hb:ahead t s.left=true) (x:ByteArray) (hx:x=tx t) (k:Nat) (hk:k=t.length):Calls Tryz.prog 58 #[.pointer (some ⟨g,0,none⟩),.string x] w fun e w'=>e=.returned (.bool true)∧Pa base w' g tv ov { s with left:=s.left.drop k }∧Chg (fun b=>b=g) w w' :=
 hx ▸ hk ▸ take_at h t true _ hb (by rw [hb];rfl) (by simp)
theorem take_no (h:Pa base w g tv ov s) (t:List UInt8) (hb:ahead t s.left=false) (x:ByteArray) (hx:x=tx t):Calls Tryz.prog 58 #[.pointer (some ⟨g,0,none⟩),.string x] w fun e w'=>e=.returned (.bool false)∧Pa base w' g tv ov s∧Chg (fun b=>b=g) w w' :=
 hx ▸ take_at h t false s.left hb (by rw [hb];rfl) (Nat.le_refl _)
attribute [local go_sem ↓] zeroNode bldNd_eq ldNode_eq stNode_eq
attribute [local go_sem] bld_kind bld_byte bld_set bld_n bld_star bld_times loadNode loadNode_if storeNode storeNode_if ndA_one_slice ndA_0 ndA_258 ndA_261
theorem results_node {fn:Func} {T:Array Value} {w:World} {b:Nat} {c:Array Value} (k:Nat) (h:fn.results=#[.cell k 95]) (hT:T.getD k undef=.pointer (some ⟨b,0,none⟩)) (hb:blk w b=c) (hc:c.size=262):(results fn T).run Tryz.prog w=.ok (.agg c) w:=by
 have:=loadVarNode w b (by rw [hb,hc])
 rw [hb] at this
 rw [Array.getD_eq_getD_getElem?] at hT
 simp [results,h,hT,asAddr,this]
theorem node_ok (h:Pa base w g tv ov s) (hp:s.parts+1≤200) (kind byte:Int) (p:Nat→Bool) (n mn mx:Int) (a:Option Addr) (m c:Nat) :
  Calls Tryz.prog 56 #[.pointer (some ⟨g,0,none⟩),.agg (ndA kind byte p n mn mx (.slice a m c))] w fun e w'=>e=.returned (.agg (ndA kind byte p n mn mx (.slice a m c)))∧Pa base w' g tv ov { s with parts:=s.parts+1 }∧Chg (fun b=>b=g) w w':=by
 have ig:=h.inh
 obtain ⟨-,-,-,q3,-⟩:=h.six
 have ff:=h.free
 have H:=Lib.hid h
 have hd:decide ((s.parts:Int)+1≤200)=true:=by rw [decide_eq_true_eq];omega
 clear h
 go_enter Tryz.func56,Tryz.ntmps56
 go_wp2_with fail
 (with_reducible refine (must_ok _).mono ?_)
 rintro e w1 ⟨rfl,rfl⟩
 go_wp2_with fail
 have H2:=H.out.setParts ((s.parts:Int)+1) (by simp) hp
 have hc:=chg_cell w g 3 (.int .i64 ((s.parts:Int)+1))
 have i2:=H2.inh
 have hz2:(w.setCell ⟨g,3,none⟩ (.int .i64 ((s.parts:Int)+1))).heap.size=w.heap.size:=by simp
 generalize w.setCell ⟨g,3,none⟩ (.int .i64 ((s.parts:Int)+1))=w2 at *
 refine bodyPost_ret (results_node 4 rfl rfl (blk_alloc_at _ _ _ _ (by simp [hz2])) (ndA_size _ _ _ _ _ _ _)) rfl ⟨rfl,H2.grows ?_,hc.trans (Chg.of_grows ?_)⟩
 all_goals exact ((Grows.refl _).alloc _).alloc _
theorem node_no (h:Pa base w g tv ov s) (hp:¬ s.parts+1≤200) (v:Array Value) (hv:OneCells v) (hs:v.size=262) :
  Calls Tryz.prog 56 #[.pointer (some ⟨g,0,none⟩),.agg v] w fun e w'=>e=.panicked noneP∧Chg (fun b=>b=g) w w':=by
 have ig:=h.inh
 obtain ⟨-,-,-,q3,-⟩:=h.six
 have ff:=h.free
 have hd:decide ((s.parts:Int)+1≤200)=false:=by rw [decide_eq_false_iff_not];omega
 have hp2:=h.parts
 clear h
 go_enter Tryz.func56,Tryz.ntmps56
 go_wp2_with fail
 (with_reducible refine (must_no _).mono ?_)
 rintro e w1 ⟨rfl,rfl⟩
 exact ⟨rfl,rfl,(chg_cell w g 3 _).trans (Chg.of_grows (((Grows.refl _).alloc _).alloc _))⟩
end
end Go.Proofs.YtnjagecmhdagkaaGreatDoor
namespace Go.Proofs.YtnjagecmhdagkaaGreatDoor
open Go.RowKit
theorem rowAs:RowOf Tryz.prog 183 256:=⟨_,Tryz.underlying183,rfl,by kernel_rfl⟩
theorem zeroAs (w:World):(zeroValue 183).run Tryz.prog w=.ok (.agg (Array.replicate 256 (.bool false))) w:=by kernel_rfl
def stAs (x v:Value):Sem Unit:=Instr.storeAt 183 x v
theorem stAs_eq (x v:Value):Instr.storeAt 183 x v=stAs x v:=rfl
theorem storeAs (w:World) (g o:Nat) (c:Array Value):(stAs (.pointer (some ⟨g,o,none⟩)) (.agg c)).run Tryz.prog w=storePart Tryz.prog w 183 g o c:=rfl
theorem storeAs_if (w:World) (g o:Nat) (c:Array Value) (h:OneCells c):storePart Tryz.prog w 183 g o c=if 0 < 256∧o+256≤(blk w g).size∧c.size=256 then .ok () (setBlk w g (over (blk w g) o c)) else storePartOdd Tryz.prog w 183 g o c:=storePart_if w _ g o 256 c rowAs h
def SetAt (w:World) (b:Nat) (p:UInt8→Bool):Prop:=∀ c:UInt8,w.cell? ⟨b,c.toNat,none⟩=some (.bool (p c))
attribute [local go_sem] tx_bt tx_from
theorem trimAscii (l:List UInt8) (b:Nat) (p:UInt8→Bool) (w:World) (hb:SetAt w b p) (hl:l.length≤1000000) :
  Calls Tryz.prog 105 #[.string (tx l),.pointer (some ⟨b,0,none⟩)] w fun e w'=>e=.returned (.string (tx (l.dropWhile p)))∧w=w':=by
 go_enter Tryz.func105,Tryz.ntmps105
 go_wp2_with fail
 go_loopg [0] (l.length+1) (fun q v wr=>∃ r:List UInt8,q=r.length+1∧r.length≤l.length∧v=.string (tx r)∧l.dropWhile p=r.dropWhile p∧wr=w)
 case atStart=>exact ⟨l,rfl,Nat.le_refl _,rfl,rfl,rfl⟩
 case round =>
  obtain ⟨r,hq,hrl,rfl,hd,rfl⟩:=hrel
  have HQ:=Lib.hid hq
  have HD:=Lib.hid hd
  have HS:=Lib.hid hb
  clear hq hd hb
  cases r with
  | nil =>
   go_wp2_with fail
   go_ret
   exact ⟨by rw [HD.out];rfl,rfl⟩
  | cons c r =>
   have hl0:0 < (c::r).length:=by simp
   have hz:=HS.out c
   go_wp2_with fail
   (with_reducible refine (Tryz.asciiSet_contains b c _ _ hz).mono ?_)
   rintro e w1 ⟨rfl,rfl⟩
   clear hz
   have hx:(tx (c::r)).extract 1 (r.length+1)=tx r:=by
    have:=tx_from (c::r) 1
    simpa using this
   cases hp:p c with
   | true =>
    have h2:Hid (l.dropWhile p=r.dropWhile p):=Lib.hid (by rw [HD.out,List.dropWhile_cons,if_pos hp])
    clear hp HD
    go_wp2_with fail
    go_roundg (gk - 1)
    case measure=>have:=HQ.out;simp at this;omega
    case rel=>exact ⟨r,by have:=HQ.out;simp at this;omega,by simp at hrl;omega,rfl,h2.out,rfl⟩
   | false =>
    have h2:Hid (l.dropWhile p=c::r):=Lib.hid (by rw [HD.out,List.dropWhile_cons,if_neg (by rw [hp];decide)])
    clear hp HD
    go_wp2_with fail
    go_ret
    exact ⟨by rw [h2.out];rfl,rfl⟩
attribute [local go_sem ↓] zeroAs stAs_eq
attribute [local go_sem] storeAs storeAs_if Lib.setCells_size
theorem setCells_one (l:List UInt8):OneCells (Lib.setCells l):=by
 unfold OneCells
 rw [Array.all_eq_true_iff_forall_mem,Lib.setCells_eq]
 intro v hv
 rw [Array.mem_map] at hv
 obtain ⟨j,_,rfl⟩:=hv
 rfl
attribute [local go_sem] setCells_one
theorem over_set (l:List UInt8):over (Array.replicate 256 (.bool false)) 0 (Lib.setCells l)=Lib.setCells l:=by
 apply Array.toList_inj.1
 have h1:(Lib.setCells l).size=256:=Lib.setCells_size l
 simp [over,h1]
attribute [local go_sem] over_set
theorem set_laid (cs:List UInt8) (w:World) (o:Obj) (t:TypeId):SetAt ((w.alloc o).alloc (.cells (Lib.setCells cs) t)) (w.heap.size+1) cs.contains:=fun c=>by
 rw [cell_of_row _ _ _ _ t (0,0) (by have:=World.alloc_heap_new (w.alloc o) (.cells (Lib.setCells cs) t);simpa using this)]
 exact Lib.setCells_at cs c
theorem trimSet (cs l:List UInt8) (c0 c1:UInt8) (cr:List UInt8) (hcs:cs=c0::c1::cr) (hc:cs.all (fun c=>decide (c.toNat < 128))=true) (hcl:cs.length≤100) (hl:l.length≤1000000) (w:World) :
  Calls Tryz.prog 89 #[.string (tx l),.string (tx cs)] w fun e w'=>e=.returned (.string (tx (l.dropWhile cs.contains)))∧Grows w w':=by
 have h2:2≤cs.length:=by rw [hcs];simp
 have hne:(tx cs).toList.isEmpty=false:=by rw [ByteArray.toList_eq,tx_data,hcs];rfl
 have hn1:((cs.length:Int) == 1)=false:=by rw [beq_eq_false_iff_ne];omega
 have hcc:∀ (j:Nat) b,cs[j]?=some b→b.toNat < 128:=fun j b hb=>by
  have:=List.all_eq_true.1 hc b (List.mem_of_getElem? hb)
  simpa using this
 have HC:=Lib.hid hcc
 have HE:=Lib.hid hcs
 clear hcs hc hcc
 cases l with
 | nil =>
  have he:(tx ([]:List UInt8)).toList.isEmpty=true:=by rw [ByteArray.toList_eq];rfl
  go_enter Tryz.func89,Tryz.ntmps89
  go_wp2_with fail
  go_ret
  exact ⟨rfl,Grows.refl _⟩
 | cons a l =>
  have he:(tx (a::l)).toList.isEmpty=false:=by rw [ByteArray.toList_eq,tx_data];rfl
  go_enter Tryz.func89,Tryz.ntmps89
  go_wp2_with fail
  (with_reducible refine (Tryz.strings_makeASCIISet zeroAs (tx cs) _ (by rw [tx_size];omega) (by rw [tx_data];exact HC.out)).mono ?_)
  rw [tx_data]
  rintro e w1 ⟨rfl,rfl⟩
  go_wp2_with fail
  (with_reducible refine (trimAscii (a::l) _ cs.contains _ (set_laid cs w _ _) hl).mono ?_)
  rintro e w1 ⟨rfl,rfl⟩
  go_wp2_with fail
  go_ret
  exact ⟨rfl,by repeat' first | exact Grows.refl _ | refine Grows.more ?_ _ | refine Grows.alloc ?_ _ | refine Grows.drew ?_⟩
end Go.Proofs.YtnjagecmhdagkaaGreatDoor
namespace Go.Proofs.YtnjagecmhdagkaaGreatDoor
open Go.RowKit
def digs:List UInt8:=[48,49,50,51,52,53,54,55,56,57]
theorem digs_is (c:UInt8):digs.contains c=isDig c:=by
 have h:∀ k:UInt8,c=k ↔ c.toNat=k.toNat:=fun k=>UInt8.toNat_inj.symm
 rw [Bool.eq_iff_iff]
 simp [digs,isDig,h]
 omega
theorem dropWhile_digs (l:List UInt8):l.dropWhile digs.contains=l.dropWhile isDig:=congrArg (fun p=>l.dropWhile p) (funext digs_is)
theorem take_all {l:List UInt8} {c:UInt8} (h:c ∈ l.takeWhile isDig):isDig c=true:=by
 induction l with
 | nil=>cases h
 | cons a l ih =>
  rw [List.takeWhile_cons] at h
  split at h
  ·rename_i ha
   rcases List.mem_cons.1 h with rfl | h
   ·exact ha
   ·exact ih h
  ·cases h
theorem trimDigs (l r:List UInt8) (hl:l.length≤1000000) (hr:l.dropWhile isDig=r) (w:World) :
  Calls Tryz.prog 89 #[.string (tx l),.string ⟨#[48,49,50,51,52,53,54,55,56,57]⟩] w fun e w'=>e=.returned (.string (tx r))∧Grows w w':=by
 have:=trimSet digs l 48 49 _ rfl (by decide) (by decide) hl w
 rw [dropWhile_digs,hr] at this
 exact this
theorem numV_snoc (l:List UInt8) (c:UInt8):numV (l++[c])=min (10*numV l+(c.toNat - 48)) 256:=by simp [numV,List.foldl_append]
theorem numV_le (l:List UInt8):numV l≤256:=by
 rcases List.eq_nil_or_concat l with rfl | ⟨a,c,rfl⟩
 ·decide
 ·rw [List.concat_eq_append,numV_snoc];exact Nat.min_le_right _ _
theorem numV_take (d:List UInt8) (i:Nat) (h:i < d.length) (h2:48≤d[i].toNat):((numV (d.take (i+1)):Nat):Int)=min (10*(numV (d.take i):Int)+((d[i].toNat:Int) - 48)) 256:=by
 rw [List.take_add_one,List.getElem?_eq_getElem h]
 simp only [Option.toList_some]
 rw [numV_snoc]
 omega
section
variable {base g:Nat} {w w':World} {tv ov:Value} {s:PS}
set_option maxHeartbeats 1000000 in
theorem number_at (h:Pa base w g tv ov s) (d r:List UInt8) (hs:s.left=d++r) (hd:s.left.takeWhile isDig=d) (hr:s.left.dropWhile isDig=r) :
  Calls Tryz.prog 59 #[.pointer (some ⟨g,0,none⟩)] w fun e w'=>e=.returned (.tuple #[.int .i64 (numV d),.bool (!d.isEmpty)])∧Pa base w' g tv ov { s with left:=r }∧Chg (fun b=>b=g) w w':=by
 have ig:=h.inh
 obtain ⟨q0,-⟩:=h.six
 have hl:=h.left
 have H:=Lib.hid h
 have hdig:Hid (∀ c ∈ d,48≤c.toNat∧c.toNat≤57):=Lib.hid (fun c hc=>by
  rw [← hd] at hc
  have:=take_all hc
  simpa [isDig] using this)
 have htr:=hr
 rw [hs] at q0 htr hl
 have hx:(tx (d++r)).extract 0 d.length=tx d:=by
  rw [tx_mid];simp
 have hlen:(d++r).length=d.length+r.length:=by simp
 have HS:=Lib.hid hs
 clear h hd hr hs
 go_enter Tryz.func59,Tryz.ntmps59
 go_wp2_with fail
 (with_reducible refine (trimDigs (d++r) r hl htr _).mono ?_)
 rintro e w1 ⟨rfl,hg⟩
 have H1:=Lib.hid (H.out.grows hg)
 have C1:=Lib.hid (Chg.of_grows (p:=fun b=>b=g) hg)
 have i1:=H1.out.inh
 have f1:=H1.out.free
 obtain ⟨z0,-⟩:=H1.out.six
 rw [HS.out] at z0
 clear q0 ig hg htr H
 go_wp2_with fail
 have e1:((d.length:Int)+r.length) - r.length=d.length:=by omega
 have hl2:d.length+r.length≤1000000:=by rw [hlen] at hl;exact hl
 go_quiet (fail)
 go_wp2_with fail
 have hP:=(H1.out.grows ((Grows.refl w1).drewN nq)).setLeft r (by rw [HS.out];simp) (tx r) rfl
 have hC:=(C1.out.trans (Chg.of_grows ((Grows.refl w1).drewN nq))).trans (chg_cell (w1.drewN nq) g 0 (.string (tx r)))
 have P2:=Lib.hid hP
 have C2:=Lib.hid hC
 have hs2:((w1.drewN nq).setCell ⟨g,0,none⟩ (.string (tx r))).heap.size=w1.heap.size:=by simp
 generalize (w1.drewN nq).setCell ⟨g,0,none⟩ (.string (tx r))=w2 at *
 clear hP hC H1 C1 i1 f1 z0 e1 hx
 go_loopg [6,8] (d.length+1) (fun q v6 _ wr=>∃ i:Nat,q+i=d.length+1∧i≤d.length∧v6=.int .i64 (numV (d.take i))∧wr=w2.iter (tx d) i)
 case atStart=>exact ⟨0,by omega,by omega,rfl,rfl⟩
 case round =>
  obtain ⟨i,hq,hi,rfl,rfl⟩:=hrel
  have HQ:=Lib.hid hq
  clear hq
  by_cases hid:i < d.length
  ·have hcb:=hdig.out _ (List.getElem_mem hid)
   have hnx:=fun ty=>run_next_ascii (P:=Tryz.prog) w2 (tx d) i ty (by simp [hid]) (by rw [tx_get];omega)
   have hg:((tx d)[i]'(by simp [hid])).toNat=d[i].toNat:=by rw [tx_get]
   rw [hg,hs2] at hnx
   have hnv:=numV_le (d.take i)
   have hst:=Lib.hid (numV_take d i hid hcb.1)
   generalize d[i].toNat=c at *
   generalize numV (d.take i)=m at *
   obtain ⟨h48,h57⟩:=hcb
   have b1:(48:Int)≤(c:Int):=by omega
   have b2:(c:Int)≤57:=by omega
   have b3:(m:Int)≤256:=by omega
   have b4:(0:Int)≤(m:Int):=by omega
   clear hg
   go_wp2_with fail
   go_roundg (gk - 1)
   case measure=>have:=HQ.out;omega
   case rel=>exact ⟨i+1,by have:=HQ.out;omega,by omega,by rw [hst.out],rfl⟩
  ·have hie:i=d.length:=by omega
   subst hie
   have hnx:=fun ty=>run_next_end (P:=Tryz.prog) w2 (tx d) d.length ty (by simp)
   rw [hs2] at hnx
   rw [List.take_length]
   have he:(tx d).toList.isEmpty=d.isEmpty:=by rw [ByteArray.toList_eq,tx_data]
   go_wp2_with fail
   go_ret2
   exact ⟨by simp [he],P2.out.grows ((Grows.refl _).alloc _),C2.out.trans (Chg.of_grows ((Grows.refl _).alloc _))⟩
end
end Go.Proofs.YtnjagecmhdagkaaGreatDoor
namespace Go.Proofs.YtnjagecmhdagkaaGreatDoor
open Go.RowKit
theorem chg_blk {p:Nat→Prop} {w w':World} (h:Chg p w w') {b:Nat} (hb:b < w.heap.size) (hp:¬ p b):blk w' b=blk w b:=by
 unfold blk;rw [h.block b hb hp]
theorem chg_row {w:World} {g:Nat} {c:Array Value}:Chg (fun b=>b=g) w (setBlk w g c):=by
 refine ⟨rfl,rfl,rfl,by simp,fun b _ hp=>?_⟩
 have hne:g≠b:=fun e=>hp e.symm
 show (w.heap.modify g _)[b]?=w.heap[b]?
 rw [Array.getElem?_modify,if_neg hne]
section
variable {base g rb:Nat} {W w w' w2:World} {tv ov ov' v:Value} {s t:PS} {q:Nat→Prop} {y:Nk} {c:Array Value}
theorem Pa.chg (h:Pa base w g tv ov s) (hc:Chg q w w') (hq:∀ b,PaK g ov b→¬ q b):Pa base w' g tv ov s:=by
 refine ⟨(chg_blk hc h.inh (hq g (.inl rfl))).trans h.cells,?_,h.ne,h.low,h.parts,h.groups,h.left,h.op⟩
 obtain ⟨h1,h2⟩:=h.own
 refine ⟨h1,h2.elim .inl ?_⟩
 rintro ⟨e,cap,cur,rfl,hb2,hh,r⟩
 exact .inr ⟨e,cap,cur,rfl,hb2,(hc.block e (Array.getElem?_eq_some_iff.1 hh).1 (hq e (.inr rfl))).trans hh,r⟩
theorem nk_ret (hP:Pa base w2 g tv ov' t) (hst:StepP (PaK g ov) (PaK g ov') W w2) (hrb:W.heap.size≤rb) (hrK:¬ PaK g ov' rb) (hN:NkAt (fun b=>(W.heap.size≤b∧¬ PaK g ov' b)∧b≠rb) w2 v y) :
  Pa base (setBlk w2 rb c) g tv ov' t∧StepP (PaK g ov) (PaK g ov') W (setBlk w2 rb c)∧NkAt (fun b=>W.heap.size≤b∧¬ PaK g ov' b) (setBlk w2 rb c) v y:=by
 have hc:Chg (fun b=>b=rb) w2 (setBlk w2 rb c):=chg_row
 refine ⟨hP.chg hc fun b hb e=>hrK (e ▸ hb),⟨chg_late hst.chg hc fun x hx e=>by omega,hst.new⟩,(hN.chg hc fun b _ h=>h.2).mono fun b _ h=>h.1⟩
theorem Pa.fresh (h:Pa base w g tv ov s):¬ PaK g ov w.heap.size:=fun hb=>Nat.lt_irrefl _ (h.own_lt hb)
theorem leaf_ret (h:Pa base w g tv ov s) (hP:Pa base w2 g tv ov t) (hC:Chg (fun b=>b=g) w w2) (x:NdV):∃ v ov',Ending.returned (.agg (ndC x (.slice none 0 0)))=.returned v∧Pa base (setBlk w2 w.heap.size c) g tv ov' t∧StepP (PaK g ov) (PaK g ov') w (setBlk w2 w.heap.size c)∧NkAt (fun b=>w.heap.size≤b∧¬ PaK g ov' b) (setBlk w2 w.heap.size c) v (x,.nil):=by
 obtain ⟨h1,h2,h3⟩:=nk_ret (c:=c) hP (StepP.of_chg (hC.mono fun b _ e=>(.inl e:PaK g ov b))) (Nat.le_refl w.heap.size) h.fresh (NkAt.leaf _ _ x)
 exact ⟨_,ov,rfl,h1,h2,h3⟩
attribute [local go_sem ↓] zeroNode bldNd_eq ldNode_eq stNode_eq
attribute [local go_sem] bld_kind bld_byte bld_set bld_n bld_star bld_times loadNode loadNode_if storeNode storeNode_if ndA_one_slice ndA_0 ndA_258 ndA_261 tx_bt tx_from
theorem tail_tx (a:UInt8) (l:List UInt8):(tx (a::l)).extract 1 (l.length+1)=tx l:=by
 have:=tx_from (a::l) 1
 simpa using this
set_option maxHeartbeats 1000000 in
theorem self_any (h:Pa base w g tv ov s) (a:UInt8) (l:List UInt8) (hl:s.left=a::l) :
  Calls Tryz.prog 57 #[.pointer (some ⟨g,0,none⟩)] w (NkPost base g tv ov w (selfV a.toNat { s with left:=l })):=by
 have ig:=h.inh
 obtain ⟨q0,-⟩:=h.six
 have ff:=h.free
 rw [hl] at q0
 have hx:=tail_tx a l
 have H:=Lib.hid h
 have hP0:=Lib.hid (h.setLeft l (by rw [hl];simp) (tx l) rfl)
 clear h hl
 by_cases hp:s.parts+1≤200
 ·have hV:Hid (selfV a.toNat { s with left:=l }=some ((byteN a.toNat,.nil),{ s with left:=l,parts:=s.parts+1 })):=Lib.hid (by unfold selfV node1;rw [if_pos hp];rfl)
  go_enter Tryz.func57,Tryz.ntmps57
  go_wp2_with fail
  have P1:=Lib.hid (hP0.out.grows ((Grows.refl _).alloc (.cells (ndA 0 0 noSet 0 0 0 (.slice none 0 0)) 95)))
  have hs1:(w.setCell ⟨g,0,none⟩ (.string (tx l))).heap.size=w.heap.size:=by simp
  have C1:=Lib.hid ((chg_cell w g 0 (.string (tx l))).trans (Chg.of_grows ((Grows.refl (w.setCell ⟨g,0,none⟩ (.string (tx l)))).alloc (.cells (ndA 0 0 noSet 0 0 0 (.slice none 0 0)) 95))))
  have hb1:blk ((w.setCell ⟨g,0,none⟩ (.string (tx l))).alloc (.cells (ndA 0 0 noSet 0 0 0 (.slice none 0 0)) 95)) w.heap.size=ndA 0 0 noSet 0 0 0 (.slice none 0 0):=blk_alloc_at _ _ _ _ hs1.symm
  generalize (w.setCell ⟨g,0,none⟩ (.string (tx l))).alloc (.cells (ndA 0 0 noSet 0 0 0 (.slice none 0 0)) 95)=w1 at *
  have i1:w.heap.size < w1.heap.size:=Blk.inHeap hb1 (by simp [ndA_size])
  (with_reducible refine (node_ok P1.out hp 1 a.toNat noSet 0 0 0 none 0 0).mono ?_)
  rintro e w2 ⟨rfl,hP,hC⟩
  have hne:¬ w.heap.size=g:=fun e=>Nat.lt_irrefl _ (e ▸ ig)
  have hb2:=(chg_blk hC i1 hne).trans hb1
  have i2:InHeap w.heap.size w2:=Blk.inHeap hb2 (by simp [ndA_size])
  have HP:=Lib.hid hP
  have HC:=Lib.hid hC
  clear hP hC hb1
  go_wp2_with fail
  rw [hV.out]
  exact bodyPost_ret (results_node 2 rfl rfl (Blk.get _ hb2 (by simp [ndA_size])) (ndA_size _ _ _ _ _ _ _)) rfl (leaf_ret H.out HP.out (C1.out.trans HC.out) (byteN a.toNat))
 ·have hV:Hid (selfV a.toNat { s with left:=l }=none):=Lib.hid (by unfold selfV node1;rw [if_neg hp];rfl)
  go_enter Tryz.func57,Tryz.ntmps57
  go_wp2_with fail
  have P1:=Lib.hid (hP0.out.grows ((Grows.refl _).alloc (.cells (ndA 0 0 noSet 0 0 0 (.slice none 0 0)) 95)))
  have C1:=Lib.hid ((chg_cell w g 0 (.string (tx l))).trans (Chg.of_grows ((Grows.refl (w.setCell ⟨g,0,none⟩ (.string (tx l)))).alloc (.cells (ndA 0 0 noSet 0 0 0 (.slice none 0 0)) 95))))
  generalize (w.setCell ⟨g,0,none⟩ (.string (tx l))).alloc (.cells (ndA 0 0 noSet 0 0 0 (.slice none 0 0)) 95)=w1 at *
  (with_reducible refine (node_no P1.out hp _ (ndA_one_slice _ _ _ _ _ _ _ _ _) (ndA_size _ _ _ _ _ _ _)).mono ?_)
  rintro e w2 ⟨rfl,hC⟩
  rw [hV.out]
  exact ⟨rfl,rfl,(C1.out.trans hC).mono fun b _ e=>.inl e⟩
end
end Go.Proofs.YtnjagecmhdagkaaGreatDoor
