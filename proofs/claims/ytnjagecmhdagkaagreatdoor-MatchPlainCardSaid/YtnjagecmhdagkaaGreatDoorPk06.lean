/-
 Classes: kind and part, walked.
-/
import Derived.Test.YtnjagecmhdagkaaGreatDoorPk03
import Derived.Test.YtnjagecmhdagkaaGreatDoorPk04
import Derived.Test.YtnjagecmhdagkaaGreatDoorPk05
set_option linter.unusedSimpArgs false
set_option linter.unusedVariables false
set_option maxRecDepth 3000
namespace Go.Proofs.YtnjagecmhdagkaaGreatDoor
open Go.RowKit
attribute [local go_sem] tx_bt tx_from
theorem ieq_true {a b:Int} (h:a=b):(a == b)=true:=by rw [h];simp
theorem ieq_false {a b:Int} (h:a≠b):(a == b)=false:=by rw [beq_eq_false_iff_ne];exact h
set_option maxHeartbeats 1000000 in
theorem kind_any (t:List UInt8) (w:World) (hl:t.length≤9223372036854775807):Calls Tryz.prog 99 #[.string (tx t)] w fun e w'=>e=.returned (.int .u8 (kindN t))∧w=w':=by
 go_enter Tryz.func99,Tryz.ntmps99
 by_cases h1:1 < t.length
 ·have h1':(1:Int) < (t.length:Int):=by omega
  have h0':(0:Int) < (t.length:Int):=by omega
  by_cases h2:bt t 0=91
  ·have d2:((bt t 0:Int) == 91)=true:=ieq_true (by omega)
   have hi:=indexByte_kind (t.getD 1 0)
   have hb:=bt_byte t 1
   have hc:(t.getD 1 0=58∨t.getD 1 0=46∨t.getD 1 0=61) ↔ (bt t 1=58∨bt t 1=46∨bt t 1=61):=by
    have e:∀ (a:UInt8) (n:Nat),a.toNat=n→(t.getD 1 0=a ↔ bt t 1=n):=fun a n h=>⟨fun e=>by unfold bt;rw [e,h],fun e=>UInt8.toNat_inj.1 (by unfold bt at e;rw [e,h])⟩
    rw [e 58 58 rfl,e 46 46 rfl,e 61 61 rfl]
   go_wp2_with fail
   (with_reducible refine (Tryz.strings_IndexByte _ _ _).mono ?_)
   rw [hb]
   clear hb
   generalize t.getD 1 0=cb at *
   rintro e w' ⟨rfl,rfl⟩
   by_cases h3:bt t 1=58∨bt t 1=46∨bt t 1=61
   ·have hge:decide (0≤Lib.indexByte [58,46,61] cb)=true:=by rw [hi];simpa using hc.2 h3
    have hk:kindN t=bt t 1:=by unfold kindN;rw [if_pos ⟨h1,h2,h3⟩]
    have HK:=Lib.hid hk
    clear hk hc hi
    go_wp2_with fail
    go_ret
    exact ⟨by rw [HK.out];rfl,rfl⟩
   ·have hge:decide (0≤Lib.indexByte [58,46,61] cb)=false:=by rw [hi];simpa using fun e=>h3 (hc.1 e)
    have hk:kindN t=0:=by unfold kindN;rw [if_neg (fun h=>h3 h.2.2)]
    have HK:=Lib.hid hk
    clear hk hc hi
    go_wp2_with fail
    go_ret
    exact ⟨by rw [HK.out];rfl,rfl⟩
  ·have d2:((bt t 0:Int) == 91)=false:=ieq_false (by omega)
   have hk:kindN t=0:=by unfold kindN;rw [if_neg (fun h=>h2 h.2.1)]
   have HK:=Lib.hid hk
   clear hk
   go_wp2_with fail
   go_ret
   exact ⟨by rw [HK.out];rfl,rfl⟩
 ·have h1':¬(1:Int) < (t.length:Int):=by omega
  have hk:kindN t=0:=by unfold kindN;rw [if_neg (fun h=>h1 h.1)]
  have HK:=Lib.hid hk
  clear hk
  go_wp2_with fail
  go_ret
  exact ⟨by rw [HK.out];rfl,rfl⟩
def Sane (w:World):Prop:=∃ m,w.cell? ⟨1,0,none⟩=some (.int .i64 m)
theorem Sane.lt {w:World} (h:Sane w):1 < w.heap.size:=by
 obtain ⟨m,hm⟩:=h
 exact World.block_lt_of_cell? w _ hm
theorem Sane.grows {w w':World} (h:Sane w) (hg:Grows w w'):Sane w':=by
 obtain ⟨m,hm⟩:=h
 obtain ⟨k,rfl⟩:=hg
 exact ⟨m,by rw [cell_more w k _ (World.block_lt_of_cell? w _ hm)];exact hm⟩
def PartPost (t:List UInt8) (w:World) (e:Ending) (w':World):Prop :=
 ∃ v r b,e=.returned (.tuple #[v,.string (tx r),.bool b])∧b=(partV t).isSome∧(∀ x,partV t=some x→r=x.2∧Tells w.heap.size w' v x.1)∧Grows w w'
set_option maxRecDepth 100000 in
set_option maxHeartbeats 4000000 in
theorem part_any (t:List UInt8) (w:World) (hl:t.length≤4000000000) (hs:Sane w):Calls Tryz.prog 87 #[.string (tx t)] w (PartPost t w):=by
 have hn0:t=[] ↔ t.length=0:=by rw [List.length_eq_zero_iff]
 go_enter Tryz.func87,Tryz.ntmps87
 go_wp2_with fail
 (with_reducible refine (kind_any t w (by omega)).mono ?_)
 rintro e w' ⟨rfl,rfl⟩
 by_cases h0:t=[]
 ·subst h0
  have e0:((tx []).toList == ([]:List UInt8))=true:=by simp [tx_nil,ByteArray.toList_eq]
  go_wp2_with fail
  go_ret3
  exact ⟨_,[],_,rfl,rfl,fun x h=>(by simp [partV] at h),Grows.refl _⟩
 ·have e0:((tx t).toList == ([]:List UInt8))=false:=by
   have:=str_ne (a:=tx t) (b:=tx []) (fun e=>h0 (tx_inj e))
   rwa [show (tx []).toList=[] by rw [ByteArray.toList_eq];rfl] at this
  have hpos:0 < t.length:=List.length_pos_iff.2 h0
  have hk0:=kindN_cases t
  by_cases h1:kindN t=58
  ·have d1:((kindN t:Int) == 58)=true:=ieq_true (by omega)
   have h2l:1 < t.length:=by
    unfold kindN at h1
    split at h1
    ·rename_i h;exact h.1
    ·omega
   have hx:(tx t).extract 2 t.length=tx (t.drop 2):=tx_from t 2
   have hp:partV t=(cutV (t.drop 2)).bind fun x=>(clsOf (tx x.1)).map fun y=>(y.2,x.2):=by unfold partV;rw [if_neg h0,if_pos h1]
   have HP:=Lib.hid hp
   obtain ⟨m,hm⟩:=hs
   clear hp
   go_wp2_with fail
   (with_reducible refine (Tryz.strings_Cut _ _ m w (by simp;omega) hm).mono ?_)
   rw [tx_data,show (ByteArray.mk #[58,93]).data.toList=[58,93] from rfl,cut_lib]
   rintro e w' ⟨rfl,n,rfl⟩
   cases hc:cutV (t.drop 2) with
   | some x =>
    have hxl:=cutV_len hc
    have hd2:(t.drop 2).length=t.length - 2:=by simp
    rw [hc] at HP
    simp only [Option.bind_some] at HP
    have hle:decide ((x.1.length:Int)+4≤(t.length:Int))=true:=by simp;omega
    have hxs:∀ l:List UInt8,(⟨l.toArray⟩:ByteArray)=tx l:=fun _=>rfl
    simp only [hxs]
    clear hc hk0 e0
    go_wp2_with fail
    (with_reducible refine (named_any _).mono ?_)
    rintro e w1 ⟨r,rfl,hmap,m1,rfl⟩
    obtain ⟨v,-,hlk,hy,hn⟩:=look_cls hmap (tx x.1)
    simp only [more_drewN] at hlk ⊢
    cases hc:clsOf (tx x.1) with
    | none =>
     rw [hc] at hlk HP
     have HP':=HP.out
     clear hy hn hc HP
     simp only [Option.isSome_none,Option.map_none] at hlk HP'
     have HP2:=Lib.hid HP'
     clear HP'
     go_wp2_with fail
     go_ret3
     exact ⟨_,_,_,rfl,by rw [HP2.out];rfl,fun x h=>(by rw [HP2.out] at h;cases h),(Grows.refl _).more _⟩
    | some y =>
     have ht:=hy y.1 y.2 hc
     rw [hc] at hlk HP
     have HP':=HP.out
     clear hy hn hc HP
     simp only [Option.isSome_some,Option.map_some] at hlk HP'
     have HP2:=Lib.hid HP'
     clear HP'
     go_wp2_with fail
     go_ret3
     exact ⟨_,_,_,rfl,by rw [HP2.out];rfl,fun x h=>(by rw [HP2.out] at h;injection h with h;subst h;exact ⟨rfl,ht⟩),(Grows.refl _).more _⟩
   | none =>
    rw [hc] at HP
    simp only [Option.bind_none] at HP
    have hd2:(t.drop 2).length=t.length - 2:=by simp
    have hle3:decide (((t.length - 2:Nat):Int)+4≤(t.length:Int))=false:=by simp;omega
    have hle:decide (((t.drop 2).length:Int)+4≤(t.length:Int))=false:=by simp;omega
    have hle2:((t.length - 2:Nat):Int)=(t.length:Int) - 2:=by omega
    have hxs:∀ l:List UInt8,(⟨l.toArray⟩:ByteArray)=tx l:=fun _=>rfl
    simp only [hxs]
    generalize hT:t.drop 2=T at *
    clear hc hk0 e0 hT hle2
    go_wp2_with fail
    (with_reducible refine (named_any _).mono ?_)
    rintro e w1 ⟨r,rfl,hmap,m1,rfl⟩
    obtain ⟨v,-,hlk,-,-⟩:=look_cls hmap (tx T)
    simp only [more_drewN] at hlk ⊢
    cases hc:(clsOf (tx T)).isSome with
    | false =>
     rw [hc] at hlk
     clear hc
     go_wp2_with fail
     go_ret3
     exact ⟨_,_,_,rfl,by rw [HP.out];rfl,fun x h=>(by rw [HP.out] at h;cases h),(Grows.refl _).more _⟩
    | true =>
     rw [hc] at hlk
     clear hc
     go_wp2_with fail
     go_ret3
     exact ⟨_,_,_,rfl,by rw [HP.out];rfl,fun x h=>(by rw [HP.out] at h;cases h),(Grows.refl _).more _⟩
  ·by_cases h2:kindN t=0
   ·have hk0':kindN t=0:=h2
    rw [hk0']
    clear hk0
    have hp:partV t=if 2 < t.length∧bt t 1=45∧bt t 2≠93 then if bt t 0≤bt t 2∧kindN (t.drop 2)=0 then some (spanP (bt t 0) (bt t 2),t.drop 3) else none else some (spanP (bt t 0) (bt t 0),t.drop 1):=by
     unfold partV;rw [if_neg h0,if_neg h1,if_neg (by omega)]
    have HP:=Lib.hid hp
    clear hp hn0
    by_cases h3:2 < t.length∧bt t 1=45∧bt t 2≠93
    ·have c1:(2:Int) < (t.length:Int):=by omega
     have c1b:(1:Int) < (t.length:Int):=by omega
     have c1c:(3:Int)≤(t.length:Int):=by omega
     have c2:((bt t 1:Int) == 45)=true:=ieq_true (by omega)
     have c3:((bt t 2:Int) != 93)=true:=by simp;omega
     have hx2:(tx t).extract 2 t.length=tx (t.drop 2):=tx_from t 2
     have hx3:(tx t).extract 3 t.length=tx (t.drop 3):=tx_from t 3
     rw [if_pos h3] at HP
     clear h3 h1 h2
     by_cases h4:bt t 0≤bt t 2
     ·have c4:(bt t 0:Int)≤(bt t 2:Int):=by omega
      by_cases h5:kindN (t.drop 2)=0
      ·have c5:((kindN (t.drop 2):Int) == 0)=true:=ieq_true (by omega)
       rw [if_pos ⟨h4,h5⟩] at HP
       go_upto_region 11 with fail
       refine region_vals [(60,Ex (.string (tx t))),(61,Ex (.int .u8 (bt t 0))),(62,Ex (.string (tx t))),(63,Ex (.int .u8 (bt t 2))),(64,fun w1 v=>Tells w.heap.size w1 v (spanP (bt t 0) (bt t 2))),(65,Ex (.string (tx t))),(66,Ex (.string (tx (t.drop 3)))),(67,Ex (.string (tx t))),(68,Ex (.int .u8 (bt t 0))),(69,Ex (.string (tx t))),(70,Ex (.int .u8 (bt t 2))),(71,Ex (.bool true)),(72,Ex (.bool true)),(73,Ex (.string (tx t))),(74,Ex (.string (tx (t.drop 2)))),(75,Ex (.int .u8 (kindN (t.drop 2)))),(76,Ex (.bool true)),(77,Ex (.bool true)),(2,fun w1 v=>Tells w.heap.size w1 v (spanP (bt t 0) (bt t 2))),(3,Ex (.string (tx (t.drop 3)))),(4,Ex (.bool true))] (by kernel_rfl) (by kernel_rfl) rfl ?tab ?step ?fin
       case tab=>exact tab_of 85 [60,61,62,63,64,65,66,67,68,69,70,71,72,73,74,75,76,77,2,3,4] rfl rfl (by decide) (by decide) (stays_cons (Ex.stays _) <| stays_cons (Ex.stays _) <| stays_cons (Ex.stays _) <| stays_cons (Ex.stays _) <| stays_cons (show Stays (fun w1 v=>Tells w.heap.size w1 v (spanP (bt t 0) (bt t 2))) from fun _ _ _ hg h=>h.grows hg) <| stays_cons (Ex.stays _) <| stays_cons (Ex.stays _) <| stays_cons (Ex.stays _) <| stays_cons (Ex.stays _) <| stays_cons (Ex.stays _) <| stays_cons (Ex.stays _) <| stays_cons (Ex.stays _) <| stays_cons (Ex.stays _) <| stays_cons (Ex.stays _) <| stays_cons (Ex.stays _) <| stays_cons (Ex.stays _) <| stays_cons (Ex.stays _) <| stays_cons (Ex.stays _) <| stays_cons (show Stays (fun w1 v=>Tells w.heap.size w1 v (spanP (bt t 0) (bt t 2))) from fun _ _ _ hg h=>h.grows hg) <| stays_cons (Ex.stays _) <| stays_cons (Ex.stays _) <| stays_nil)
       case step =>
        intro hT i done a' w' hi hJ hr
        have hi:i < 21:=hi
        match i,hi,hr with
        | 0,_,hr =>
         have e0:a'.eval (.tmp 0)=(.string (tx t)):=hJ.old 0 rfl (by simp)
         refine hJ.pure_ hT rfl rfl rfl rfl (.string (tx t)) ?_ rfl
         have ek:∀ v,a'.eval (.const v)=v:=fun _=>rfl
         generalize a'.eval=ev at e0 ek ⊢
         simp [execOp,go_sem,e0] <;> first | omega | (intro hx9;exact absurd hx9 (by omega))
        | 1,_,hr =>
         have e60:a'.eval (.tmp 60)=(.string (tx t)):=hJ.ex (j:=0) rfl hr (by kernel_rfl)
         refine hJ.pure_ hT rfl rfl rfl rfl (.int .u8 (bt t 0)) ?_ rfl
         have ek:∀ v,a'.eval (.const v)=v:=fun _=>rfl
         generalize a'.eval=ev at e60 ek ⊢
         simp [execOp,go_sem,ek,e60,h0] <;> first | omega | (intro hx9;exact absurd hx9 (by omega))
        | 2,_,hr =>
         have e0:a'.eval (.tmp 0)=(.string (tx t)):=hJ.old 0 rfl (by simp)
         refine hJ.pure_ hT rfl rfl rfl rfl (.string (tx t)) ?_ rfl
         have ek:∀ v,a'.eval (.const v)=v:=fun _=>rfl
         generalize a'.eval=ev at e0 ek ⊢
         simp [execOp,go_sem,e0] <;> first | omega | (intro hx9;exact absurd hx9 (by omega))
        | 3,_,hr =>
         have e62:a'.eval (.tmp 62)=(.string (tx t)):=hJ.ex (j:=2) rfl hr (by kernel_rfl)
         refine hJ.pure_ hT rfl rfl rfl rfl (.int .u8 (bt t 2)) ?_ rfl
         have ek:∀ v,a'.eval (.const v)=v:=fun _=>rfl
         generalize a'.eval=ev at e62 ek ⊢
         simp [execOp,go_sem,ek,e62] <;> first | omega | (intro hx9;exact absurd hx9 (by omega))
        | 4,_,hr =>
         have e61:a'.eval (.tmp 61)=(.int .u8 (bt t 0)):=hJ.ex (j:=1) rfl hr (by kernel_rfl)
         have e63:a'.eval (.tmp 63)=(.int .u8 (bt t 2)):=hJ.ex (j:=3) rfl hr (by kernel_rfl)
         refine hJ.call_ hT rfl rfl rfl rfl 102 #[.int .u8 (bt t 0),.int .u8 (bt t 2)] (by have hent:=enters_of Tryz.func102 (by kernel_rfl) (by kernel_rfl) #[.int .u8 (bt t 0),.int .u8 (bt t 2)] w';have ek:∀ v,a'.eval (.const v)=v:=fun _=>rfl;have ef:∀ f,a'.eval (.func f)=.func (.func f) #[] #[]:=fun _=>rfl;generalize a'.eval=ev at *;simp [execOp,resolve,invoke,Deferred.ofValue,go_sem,hent,ef,e61,e63]) ?_
         refine (span_any (bt t 0) (bt t 2) w').mono ?_
         rintro e w1 ⟨v,rfl,hv,hgv⟩
         exact ⟨v,rfl,hgv,hv.mono hJ.grows.below.size⟩
        | 5,_,hr =>
         have e0:a'.eval (.tmp 0)=(.string (tx t)):=hJ.old 0 rfl (by simp)
         refine hJ.pure_ hT rfl rfl rfl rfl (.string (tx t)) ?_ rfl
         have ek:∀ v,a'.eval (.const v)=v:=fun _=>rfl
         generalize a'.eval=ev at e0 ek ⊢
         simp [execOp,go_sem,e0] <;> first | omega | (intro hx9;exact absurd hx9 (by omega))
        | 6,_,hr =>
         have e65:a'.eval (.tmp 65)=(.string (tx t)):=hJ.ex (j:=5) rfl hr (by kernel_rfl)
         refine hJ.pure_ hT rfl rfl rfl rfl (.string (tx (t.drop 3))) ?_ rfl
         have ek:∀ v,a'.eval (.const v)=v:=fun _=>rfl
         generalize a'.eval=ev at e65 ek ⊢
         simp [execOp,go_sem,ek,e65] <;> first | omega | (intro hx9;exact absurd hx9 (by omega))
        | 7,_,hr =>
         have e0:a'.eval (.tmp 0)=(.string (tx t)):=hJ.old 0 rfl (by simp)
         refine hJ.pure_ hT rfl rfl rfl rfl (.string (tx t)) ?_ rfl
         have ek:∀ v,a'.eval (.const v)=v:=fun _=>rfl
         generalize a'.eval=ev at e0 ek ⊢
         simp [execOp,go_sem,e0] <;> first | omega | (intro hx9;exact absurd hx9 (by omega))
        | 8,_,hr =>
         have e67:a'.eval (.tmp 67)=(.string (tx t)):=hJ.ex (j:=7) rfl hr (by kernel_rfl)
         refine hJ.pure_ hT rfl rfl rfl rfl (.int .u8 (bt t 0)) ?_ rfl
         have ek:∀ v,a'.eval (.const v)=v:=fun _=>rfl
         generalize a'.eval=ev at e67 ek ⊢
         simp [execOp,go_sem,ek,e67,h0] <;> first | omega | (intro hx9;exact absurd hx9 (by omega))
        | 9,_,hr =>
         have e0:a'.eval (.tmp 0)=(.string (tx t)):=hJ.old 0 rfl (by simp)
         refine hJ.pure_ hT rfl rfl rfl rfl (.string (tx t)) ?_ rfl
         have ek:∀ v,a'.eval (.const v)=v:=fun _=>rfl
         generalize a'.eval=ev at e0 ek ⊢
         simp [execOp,go_sem,e0] <;> first | omega | (intro hx9;exact absurd hx9 (by omega))
        | 10,_,hr =>
         have e69:a'.eval (.tmp 69)=(.string (tx t)):=hJ.ex (j:=9) rfl hr (by kernel_rfl)
         refine hJ.pure_ hT rfl rfl rfl rfl (.int .u8 (bt t 2)) ?_ rfl
         have ek:∀ v,a'.eval (.const v)=v:=fun _=>rfl
         generalize a'.eval=ev at e69 ek ⊢
         simp [execOp,go_sem,ek,e69] <;> first | omega | (intro hx9;exact absurd hx9 (by omega))
        | 11,_,hr =>
         have e68:a'.eval (.tmp 68)=(.int .u8 (bt t 0)):=hJ.ex (j:=8) rfl hr (by kernel_rfl)
         have e70:a'.eval (.tmp 70)=(.int .u8 (bt t 2)):=hJ.ex (j:=10) rfl hr (by kernel_rfl)
         refine hJ.pure_ hT rfl rfl rfl rfl (.bool true) ?_ rfl
         have ek:∀ v,a'.eval (.const v)=v:=fun _=>rfl
         generalize a'.eval=ev at e68 e70 ek ⊢
         simp [execOp,go_sem,e68,e70] <;> first | omega | (intro hx9;exact absurd hx9 (by omega))
        | 12,_,hr =>
         have e71:a'.eval (.tmp 71)=(.bool true):=hJ.ex (j:=11) rfl hr (by kernel_rfl)
         refine hJ.pure_ hT rfl rfl rfl rfl (.bool true) ?_ rfl
         have ek:∀ v,a'.eval (.const v)=v:=fun _=>rfl
         generalize a'.eval=ev at e71 ek ⊢
         simp [execOp,go_sem,e71] <;> first | omega | (intro hx9;exact absurd hx9 (by omega))
        | 13,_,hr =>
         have e0:a'.eval (.tmp 0)=(.string (tx t)):=hJ.old 0 rfl (by simp)
         have e72:a'.eval (.tmp 72)=(.bool true):=hJ.ex (j:=12) rfl hr (by kernel_rfl)
         refine hJ.pure_ hT rfl rfl rfl ((wanted_of (k:=12) (b:=true) rfl rfl rfl e72).trans (by decide)) (.string (tx t)) ?_ rfl
         have ek:∀ v,a'.eval (.const v)=v:=fun _=>rfl
         generalize a'.eval=ev at e0 e72 ek ⊢
         simp [execOp,go_sem,e0] <;> first | omega | (intro hx9;exact absurd hx9 (by omega))
        | 14,_,hr =>
         have e73:a'.eval (.tmp 73)=(.string (tx t)):=hJ.ex (j:=13) rfl hr (by kernel_rfl)
         have e72:a'.eval (.tmp 72)=(.bool true):=hJ.ex (j:=12) rfl hr (by kernel_rfl)
         refine hJ.pure_ hT rfl rfl rfl ((wanted_of (k:=12) (b:=true) rfl rfl rfl e72).trans (by decide)) (.string (tx (t.drop 2))) ?_ rfl
         have ek:∀ v,a'.eval (.const v)=v:=fun _=>rfl
         generalize a'.eval=ev at e73 e72 ek ⊢
         simp [execOp,go_sem,ek,e73] <;> first | omega | (intro hx9;exact absurd hx9 (by omega))
        | 15,_,hr =>
         have e74:a'.eval (.tmp 74)=(.string (tx (t.drop 2))):=hJ.ex (j:=14) rfl hr (by kernel_rfl)
         have e72:a'.eval (.tmp 72)=(.bool true):=hJ.ex (j:=12) rfl hr (by kernel_rfl)
         refine hJ.call_ hT rfl rfl rfl ((wanted_of (k:=12) (b:=true) rfl rfl rfl e72).trans (by decide)) 99 #[.string (tx (t.drop 2))] (by have hent:=enters_of Tryz.func99 (by kernel_rfl) (by kernel_rfl) #[.string (tx (t.drop 2))] w';have ek:∀ v,a'.eval (.const v)=v:=fun _=>rfl;have ef:∀ f,a'.eval (.func f)=.func (.func f) #[] #[]:=fun _=>rfl;generalize a'.eval=ev at *;simp [execOp,resolve,invoke,Deferred.ofValue,go_sem,hent,ef,e74]) ?_
         refine (kind_any (t.drop 2) w' (by simp;omega)).mono ?_
         rintro e w1 ⟨rfl,rfl⟩
         exact ⟨_,rfl,Grows.refl _,rfl⟩
        | 16,_,hr =>
         have e75:a'.eval (.tmp 75)=(.int .u8 (kindN (t.drop 2))):=hJ.ex (j:=15) rfl hr (by kernel_rfl)
         have e72:a'.eval (.tmp 72)=(.bool true):=hJ.ex (j:=12) rfl hr (by kernel_rfl)
         refine hJ.pure_ hT rfl rfl rfl ((wanted_of (k:=12) (b:=true) rfl rfl rfl e72).trans (by decide)) (.bool true) ?_ rfl
         have ek:∀ v,a'.eval (.const v)=v:=fun _=>rfl
         generalize a'.eval=ev at e75 e72 ek ⊢
         simp [execOp,go_sem,ek,e75] <;> first | omega | (intro hx9;exact absurd hx9 (by omega))
        | 17,_,hr =>
         have e72:a'.eval (.tmp 72)=(.bool true):=hJ.ex (j:=12) rfl hr (by kernel_rfl)
         have e76:a'.eval (.tmp 76)=(.bool true):=hJ.ex (j:=16) rfl hr (by kernel_rfl)
         refine hJ.pure_ hT rfl rfl rfl rfl (.bool true) ?_ rfl
         have ek:∀ v,a'.eval (.const v)=v:=fun _=>rfl
         generalize a'.eval=ev at e72 e76 ek ⊢
         simp [execOp,go_sem,ek,e72,e76] <;> first | omega | (intro hx9;exact absurd hx9 (by omega))
        | 18,_,hr =>
         have e64:(fun w1 v=>Tells w.heap.size w1 v (spanP (bt t 0) (bt t 2))) w' (a'.eval (.tmp 64)):=hJ.has (j:=4) rfl hr (by kernel_rfl)
         exact hJ.pure_ hT rfl rfl rfl rfl (a'.eval (.tmp 64)) rfl e64
        | 19,_,hr =>
         have e66:a'.eval (.tmp 66)=(.string (tx (t.drop 3))):=hJ.ex (j:=6) rfl hr (by kernel_rfl)
         refine hJ.pure_ hT rfl rfl rfl rfl (.string (tx (t.drop 3))) ?_ rfl
         have ek:∀ v,a'.eval (.const v)=v:=fun _=>rfl
         generalize a'.eval=ev at e66 ek ⊢
         simp [execOp,go_sem,e66] <;> first | omega | (intro hx9;exact absurd hx9 (by omega))
        | 20,_,hr =>
         have e77:a'.eval (.tmp 77)=(.bool true):=hJ.ex (j:=17) rfl hr (by kernel_rfl)
         refine hJ.pure_ hT rfl rfl rfl rfl (.bool true) ?_ rfl
         have ek:∀ v,a'.eval (.const v)=v:=fun _=>rfl
         generalize a'.eval=ev at e77 ek ⊢
         simp [execOp,go_sem,e77] <;> first | omega | (intro hx9;exact absurd hx9 (by omega))
        | n+21,hi,_=>exact absurd hi (by omega)
       case fin =>
        intro a' w' _ hdf hg hv ho
        have e2:Tells w.heap.size w' (a'.eval (.tmp 2)) (spanP (bt t 0) (bt t 2)):=hv 18 2 _ rfl
        have e3:a'.eval (.tmp 3)=.string (tx (t.drop 3)):=hv 19 3 _ rfl
        have e4:a'.eval (.tmp 4)=.bool true:=hv 20 4 _ rfl
        have f3:a'.tmps[3]?.getD undef=.string (tx (t.drop 3)):=by simpa [Act.eval] using e3
        have f4:a'.tmps[4]?.getD undef=.bool true:=by simpa [Act.eval] using e4
        have f2:a'.tmps[2]?.getD undef=a'.eval (.tmp 2):=by simp [Act.eval]
        generalize a'.eval (.tmp 2)=v2 at *
        clear hv ho e3 e4
        go_wp2_with fail
        exact bodyPost_ret (v:=.tuple #[v2,.string (tx (t.drop 3)),.bool true]) (by simp [results,Tryz.results87,go_sem,f2,f3,f4]) hdf ⟨v2,_,_,rfl,by rw [HP.out];rfl,fun x h=>(by rw [HP.out] at h;injection h with h;subst h;exact ⟨rfl,e2⟩),hg⟩
      ·have c5:((kindN (t.drop 2):Int) == 0)=false:=ieq_false (by omega)
       rw [if_neg (fun h=>h5 h.2)] at HP
       go_upto_region 11 with fail
       refine region_vals [(60,Ex (.string (tx t))),(61,Ex (.int .u8 (bt t 0))),(62,Ex (.string (tx t))),(63,Ex (.int .u8 (bt t 2))),(64,fun w1 v=>Tells w.heap.size w1 v (spanP (bt t 0) (bt t 2))),(65,Ex (.string (tx t))),(66,Ex (.string (tx (t.drop 3)))),(67,Ex (.string (tx t))),(68,Ex (.int .u8 (bt t 0))),(69,Ex (.string (tx t))),(70,Ex (.int .u8 (bt t 2))),(71,Ex (.bool true)),(72,Ex (.bool true)),(73,Ex (.string (tx t))),(74,Ex (.string (tx (t.drop 2)))),(75,Ex (.int .u8 (kindN (t.drop 2)))),(76,Ex (.bool false)),(77,Ex (.bool false)),(2,fun w1 v=>Tells w.heap.size w1 v (spanP (bt t 0) (bt t 2))),(3,Ex (.string (tx (t.drop 3)))),(4,Ex (.bool false))] (by kernel_rfl) (by kernel_rfl) rfl ?tab ?step ?fin
       case tab=>exact tab_of 85 [60,61,62,63,64,65,66,67,68,69,70,71,72,73,74,75,76,77,2,3,4] rfl rfl (by decide) (by decide) (stays_cons (Ex.stays _) <| stays_cons (Ex.stays _) <| stays_cons (Ex.stays _) <| stays_cons (Ex.stays _) <| stays_cons (show Stays (fun w1 v=>Tells w.heap.size w1 v (spanP (bt t 0) (bt t 2))) from fun _ _ _ hg h=>h.grows hg) <| stays_cons (Ex.stays _) <| stays_cons (Ex.stays _) <| stays_cons (Ex.stays _) <| stays_cons (Ex.stays _) <| stays_cons (Ex.stays _) <| stays_cons (Ex.stays _) <| stays_cons (Ex.stays _) <| stays_cons (Ex.stays _) <| stays_cons (Ex.stays _) <| stays_cons (Ex.stays _) <| stays_cons (Ex.stays _) <| stays_cons (Ex.stays _) <| stays_cons (Ex.stays _) <| stays_cons (show Stays (fun w1 v=>Tells w.heap.size w1 v (spanP (bt t 0) (bt t 2))) from fun _ _ _ hg h=>h.grows hg) <| stays_cons (Ex.stays _) <| stays_cons (Ex.stays _) <| stays_nil)
       case step =>
        intro hT i done a' w' hi hJ hr
        have hi:i < 21:=hi
        match i,hi,hr with
        | 0,_,hr =>
         have e0:a'.eval (.tmp 0)=(.string (tx t)):=hJ.old 0 rfl (by simp)
         refine hJ.pure_ hT rfl rfl rfl rfl (.string (tx t)) ?_ rfl
         have ek:∀ v,a'.eval (.const v)=v:=fun _=>rfl
         generalize a'.eval=ev at e0 ek ⊢
         simp [execOp,go_sem,e0] <;> first | omega | (intro hx9;exact absurd hx9 (by omega))
        | 1,_,hr =>
         have e60:a'.eval (.tmp 60)=(.string (tx t)):=hJ.ex (j:=0) rfl hr (by kernel_rfl)
         refine hJ.pure_ hT rfl rfl rfl rfl (.int .u8 (bt t 0)) ?_ rfl
         have ek:∀ v,a'.eval (.const v)=v:=fun _=>rfl
         generalize a'.eval=ev at e60 ek ⊢
         simp [execOp,go_sem,ek,e60,h0] <;> first | omega | (intro hx9;exact absurd hx9 (by omega))
        | 2,_,hr =>
         have e0:a'.eval (.tmp 0)=(.string (tx t)):=hJ.old 0 rfl (by simp)
         refine hJ.pure_ hT rfl rfl rfl rfl (.string (tx t)) ?_ rfl
         have ek:∀ v,a'.eval (.const v)=v:=fun _=>rfl
         generalize a'.eval=ev at e0 ek ⊢
         simp [execOp,go_sem,e0] <;> first | omega | (intro hx9;exact absurd hx9 (by omega))
        | 3,_,hr =>
         have e62:a'.eval (.tmp 62)=(.string (tx t)):=hJ.ex (j:=2) rfl hr (by kernel_rfl)
         refine hJ.pure_ hT rfl rfl rfl rfl (.int .u8 (bt t 2)) ?_ rfl
         have ek:∀ v,a'.eval (.const v)=v:=fun _=>rfl
         generalize a'.eval=ev at e62 ek ⊢
         simp [execOp,go_sem,ek,e62] <;> first | omega | (intro hx9;exact absurd hx9 (by omega))
        | 4,_,hr =>
         have e61:a'.eval (.tmp 61)=(.int .u8 (bt t 0)):=hJ.ex (j:=1) rfl hr (by kernel_rfl)
         have e63:a'.eval (.tmp 63)=(.int .u8 (bt t 2)):=hJ.ex (j:=3) rfl hr (by kernel_rfl)
         refine hJ.call_ hT rfl rfl rfl rfl 102 #[.int .u8 (bt t 0),.int .u8 (bt t 2)] (by have hent:=enters_of Tryz.func102 (by kernel_rfl) (by kernel_rfl) #[.int .u8 (bt t 0),.int .u8 (bt t 2)] w';have ek:∀ v,a'.eval (.const v)=v:=fun _=>rfl;have ef:∀ f,a'.eval (.func f)=.func (.func f) #[] #[]:=fun _=>rfl;generalize a'.eval=ev at *;simp [execOp,resolve,invoke,Deferred.ofValue,go_sem,hent,ef,e61,e63]) ?_
         refine (span_any (bt t 0) (bt t 2) w').mono ?_
         rintro e w1 ⟨v,rfl,hv,hgv⟩
         exact ⟨v,rfl,hgv,hv.mono hJ.grows.below.size⟩
        | 5,_,hr =>
         have e0:a'.eval (.tmp 0)=(.string (tx t)):=hJ.old 0 rfl (by simp)
         refine hJ.pure_ hT rfl rfl rfl rfl (.string (tx t)) ?_ rfl
         have ek:∀ v,a'.eval (.const v)=v:=fun _=>rfl
         generalize a'.eval=ev at e0 ek ⊢
         simp [execOp,go_sem,e0] <;> first | omega | (intro hx9;exact absurd hx9 (by omega))
        | 6,_,hr =>
         have e65:a'.eval (.tmp 65)=(.string (tx t)):=hJ.ex (j:=5) rfl hr (by kernel_rfl)
         refine hJ.pure_ hT rfl rfl rfl rfl (.string (tx (t.drop 3))) ?_ rfl
         have ek:∀ v,a'.eval (.const v)=v:=fun _=>rfl
         generalize a'.eval=ev at e65 ek ⊢
         simp [execOp,go_sem,ek,e65] <;> first | omega | (intro hx9;exact absurd hx9 (by omega))
        | 7,_,hr =>
         have e0:a'.eval (.tmp 0)=(.string (tx t)):=hJ.old 0 rfl (by simp)
         refine hJ.pure_ hT rfl rfl rfl rfl (.string (tx t)) ?_ rfl
         have ek:∀ v,a'.eval (.const v)=v:=fun _=>rfl
         generalize a'.eval=ev at e0 ek ⊢
         simp [execOp,go_sem,e0] <;> first | omega | (intro hx9;exact absurd hx9 (by omega))
        | 8,_,hr =>
         have e67:a'.eval (.tmp 67)=(.string (tx t)):=hJ.ex (j:=7) rfl hr (by kernel_rfl)
         refine hJ.pure_ hT rfl rfl rfl rfl (.int .u8 (bt t 0)) ?_ rfl
         have ek:∀ v,a'.eval (.const v)=v:=fun _=>rfl
         generalize a'.eval=ev at e67 ek ⊢
         simp [execOp,go_sem,ek,e67,h0] <;> first | omega | (intro hx9;exact absurd hx9 (by omega))
        | 9,_,hr =>
         have e0:a'.eval (.tmp 0)=(.string (tx t)):=hJ.old 0 rfl (by simp)
         refine hJ.pure_ hT rfl rfl rfl rfl (.string (tx t)) ?_ rfl
         have ek:∀ v,a'.eval (.const v)=v:=fun _=>rfl
         generalize a'.eval=ev at e0 ek ⊢
         simp [execOp,go_sem,e0] <;> first | omega | (intro hx9;exact absurd hx9 (by omega))
        | 10,_,hr =>
         have e69:a'.eval (.tmp 69)=(.string (tx t)):=hJ.ex (j:=9) rfl hr (by kernel_rfl)
         refine hJ.pure_ hT rfl rfl rfl rfl (.int .u8 (bt t 2)) ?_ rfl
         have ek:∀ v,a'.eval (.const v)=v:=fun _=>rfl
         generalize a'.eval=ev at e69 ek ⊢
         simp [execOp,go_sem,ek,e69] <;> first | omega | (intro hx9;exact absurd hx9 (by omega))
        | 11,_,hr =>
         have e68:a'.eval (.tmp 68)=(.int .u8 (bt t 0)):=hJ.ex (j:=8) rfl hr (by kernel_rfl)
         have e70:a'.eval (.tmp 70)=(.int .u8 (bt t 2)):=hJ.ex (j:=10) rfl hr (by kernel_rfl)
         refine hJ.pure_ hT rfl rfl rfl rfl (.bool true) ?_ rfl
         have ek:∀ v,a'.eval (.const v)=v:=fun _=>rfl
         generalize a'.eval=ev at e68 e70 ek ⊢
         simp [execOp,go_sem,e68,e70] <;> first | omega | (intro hx9;exact absurd hx9 (by omega))
        | 12,_,hr =>
         have e71:a'.eval (.tmp 71)=(.bool true):=hJ.ex (j:=11) rfl hr (by kernel_rfl)
         refine hJ.pure_ hT rfl rfl rfl rfl (.bool true) ?_ rfl
         have ek:∀ v,a'.eval (.const v)=v:=fun _=>rfl
         generalize a'.eval=ev at e71 ek ⊢
         simp [execOp,go_sem,e71] <;> first | omega | (intro hx9;exact absurd hx9 (by omega))
        | 13,_,hr =>
         have e0:a'.eval (.tmp 0)=(.string (tx t)):=hJ.old 0 rfl (by simp)
         have e72:a'.eval (.tmp 72)=(.bool true):=hJ.ex (j:=12) rfl hr (by kernel_rfl)
         refine hJ.pure_ hT rfl rfl rfl ((wanted_of (k:=12) (b:=true) rfl rfl rfl e72).trans (by decide)) (.string (tx t)) ?_ rfl
         have ek:∀ v,a'.eval (.const v)=v:=fun _=>rfl
         generalize a'.eval=ev at e0 e72 ek ⊢
         simp [execOp,go_sem,e0] <;> first | omega | (intro hx9;exact absurd hx9 (by omega))
        | 14,_,hr =>
         have e73:a'.eval (.tmp 73)=(.string (tx t)):=hJ.ex (j:=13) rfl hr (by kernel_rfl)
         have e72:a'.eval (.tmp 72)=(.bool true):=hJ.ex (j:=12) rfl hr (by kernel_rfl)
         refine hJ.pure_ hT rfl rfl rfl ((wanted_of (k:=12) (b:=true) rfl rfl rfl e72).trans (by decide)) (.string (tx (t.drop 2))) ?_ rfl
         have ek:∀ v,a'.eval (.const v)=v:=fun _=>rfl
         generalize a'.eval=ev at e73 e72 ek ⊢
         simp [execOp,go_sem,ek,e73] <;> first | omega | (intro hx9;exact absurd hx9 (by omega))
        | 15,_,hr =>
         have e74:a'.eval (.tmp 74)=(.string (tx (t.drop 2))):=hJ.ex (j:=14) rfl hr (by kernel_rfl)
         have e72:a'.eval (.tmp 72)=(.bool true):=hJ.ex (j:=12) rfl hr (by kernel_rfl)
         refine hJ.call_ hT rfl rfl rfl ((wanted_of (k:=12) (b:=true) rfl rfl rfl e72).trans (by decide)) 99 #[.string (tx (t.drop 2))] (by have hent:=enters_of Tryz.func99 (by kernel_rfl) (by kernel_rfl) #[.string (tx (t.drop 2))] w';have ek:∀ v,a'.eval (.const v)=v:=fun _=>rfl;have ef:∀ f,a'.eval (.func f)=.func (.func f) #[] #[]:=fun _=>rfl;generalize a'.eval=ev at *;simp [execOp,resolve,invoke,Deferred.ofValue,go_sem,hent,ef,e74]) ?_
         refine (kind_any (t.drop 2) w' (by simp;omega)).mono ?_
         rintro e w1 ⟨rfl,rfl⟩
         exact ⟨_,rfl,Grows.refl _,rfl⟩
        | 16,_,hr =>
         have e75:a'.eval (.tmp 75)=(.int .u8 (kindN (t.drop 2))):=hJ.ex (j:=15) rfl hr (by kernel_rfl)
         have e72:a'.eval (.tmp 72)=(.bool true):=hJ.ex (j:=12) rfl hr (by kernel_rfl)
         refine hJ.pure_ hT rfl rfl rfl ((wanted_of (k:=12) (b:=true) rfl rfl rfl e72).trans (by decide)) (.bool false) ?_ rfl
         have ek:∀ v,a'.eval (.const v)=v:=fun _=>rfl
         generalize a'.eval=ev at e75 e72 ek ⊢
         simp [execOp,go_sem,ek,e75] <;> first | omega | (intro hx9;exact absurd hx9 (by omega))
        | 17,_,hr =>
         have e72:a'.eval (.tmp 72)=(.bool true):=hJ.ex (j:=12) rfl hr (by kernel_rfl)
         have e76:a'.eval (.tmp 76)=(.bool false):=hJ.ex (j:=16) rfl hr (by kernel_rfl)
         refine hJ.pure_ hT rfl rfl rfl rfl (.bool false) ?_ rfl
         have ek:∀ v,a'.eval (.const v)=v:=fun _=>rfl
         generalize a'.eval=ev at e72 e76 ek ⊢
         simp [execOp,go_sem,ek,e72,e76] <;> first | omega | (intro hx9;exact absurd hx9 (by omega))
        | 18,_,hr =>
         have e64:(fun w1 v=>Tells w.heap.size w1 v (spanP (bt t 0) (bt t 2))) w' (a'.eval (.tmp 64)):=hJ.has (j:=4) rfl hr (by kernel_rfl)
         exact hJ.pure_ hT rfl rfl rfl rfl (a'.eval (.tmp 64)) rfl e64
        | 19,_,hr =>
         have e66:a'.eval (.tmp 66)=(.string (tx (t.drop 3))):=hJ.ex (j:=6) rfl hr (by kernel_rfl)
         refine hJ.pure_ hT rfl rfl rfl rfl (.string (tx (t.drop 3))) ?_ rfl
         have ek:∀ v,a'.eval (.const v)=v:=fun _=>rfl
         generalize a'.eval=ev at e66 ek ⊢
         simp [execOp,go_sem,e66] <;> first | omega | (intro hx9;exact absurd hx9 (by omega))
        | 20,_,hr =>
         have e77:a'.eval (.tmp 77)=(.bool false):=hJ.ex (j:=17) rfl hr (by kernel_rfl)
         refine hJ.pure_ hT rfl rfl rfl rfl (.bool false) ?_ rfl
         have ek:∀ v,a'.eval (.const v)=v:=fun _=>rfl
         generalize a'.eval=ev at e77 ek ⊢
         simp [execOp,go_sem,e77] <;> first | omega | (intro hx9;exact absurd hx9 (by omega))
        | n+21,hi,_=>exact absurd hi (by omega)
       case fin =>
        intro a' w' _ hdf hg hv ho
        have e2:Tells w.heap.size w' (a'.eval (.tmp 2)) (spanP (bt t 0) (bt t 2)):=hv 18 2 _ rfl
        have e3:a'.eval (.tmp 3)=.string (tx (t.drop 3)):=hv 19 3 _ rfl
        have e4:a'.eval (.tmp 4)=.bool false:=hv 20 4 _ rfl
        have f3:a'.tmps[3]?.getD undef=.string (tx (t.drop 3)):=by simpa [Act.eval] using e3
        have f4:a'.tmps[4]?.getD undef=.bool false:=by simpa [Act.eval] using e4
        have f2:a'.tmps[2]?.getD undef=a'.eval (.tmp 2):=by simp [Act.eval]
        generalize a'.eval (.tmp 2)=v2 at *
        clear hv ho e3 e4
        go_wp2_with fail
        exact bodyPost_ret (v:=.tuple #[v2,.string (tx (t.drop 3)),.bool false]) (by simp [results,Tryz.results87,go_sem,f2,f3,f4]) hdf ⟨v2,_,_,rfl,by rw [HP.out];rfl,fun x h=>(by rw [HP.out] at h;cases h),hg⟩
     ·have c4:¬(bt t 0:Int)≤(bt t 2:Int):=by omega
      rw [if_neg (fun h=>h4 h.1)] at HP
      go_upto_region 11 with fail
      refine region_vals [(60,Ex (.string (tx t))),(61,Ex (.int .u8 (bt t 0))),(62,Ex (.string (tx t))),(63,Ex (.int .u8 (bt t 2))),(64,fun w1 v=>Tells w.heap.size w1 v (spanP (bt t 0) (bt t 2))),(65,Ex (.string (tx t))),(66,Ex (.string (tx (t.drop 3)))),(67,Ex (.string (tx t))),(68,Ex (.int .u8 (bt t 0))),(69,Ex (.string (tx t))),(70,Ex (.int .u8 (bt t 2))),(71,Ex (.bool false)),(72,Ex (.bool false)),(73,Ex (undef)),(74,Ex (undef)),(75,Ex (undef)),(76,Ex (undef)),(77,Ex (.bool false)),(2,fun w1 v=>Tells w.heap.size w1 v (spanP (bt t 0) (bt t 2))),(3,Ex (.string (tx (t.drop 3)))),(4,Ex (.bool false))] (by kernel_rfl) (by kernel_rfl) rfl ?tab ?step ?fin
      case tab=>exact tab_of 85 [60,61,62,63,64,65,66,67,68,69,70,71,72,73,74,75,76,77,2,3,4] rfl rfl (by decide) (by decide) (stays_cons (Ex.stays _) <| stays_cons (Ex.stays _) <| stays_cons (Ex.stays _) <| stays_cons (Ex.stays _) <| stays_cons (show Stays (fun w1 v=>Tells w.heap.size w1 v (spanP (bt t 0) (bt t 2))) from fun _ _ _ hg h=>h.grows hg) <| stays_cons (Ex.stays _) <| stays_cons (Ex.stays _) <| stays_cons (Ex.stays _) <| stays_cons (Ex.stays _) <| stays_cons (Ex.stays _) <| stays_cons (Ex.stays _) <| stays_cons (Ex.stays _) <| stays_cons (Ex.stays _) <| stays_cons (Ex.stays _) <| stays_cons (Ex.stays _) <| stays_cons (Ex.stays _) <| stays_cons (Ex.stays _) <| stays_cons (Ex.stays _) <| stays_cons (show Stays (fun w1 v=>Tells w.heap.size w1 v (spanP (bt t 0) (bt t 2))) from fun _ _ _ hg h=>h.grows hg) <| stays_cons (Ex.stays _) <| stays_cons (Ex.stays _) <| stays_nil)
      case step =>
       intro hT i done a' w' hi hJ hr
       have hi:i < 21:=hi
       match i,hi,hr with
       | 0,_,hr =>
        have e0:a'.eval (.tmp 0)=(.string (tx t)):=hJ.old 0 rfl (by simp)
        refine hJ.pure_ hT rfl rfl rfl rfl (.string (tx t)) ?_ rfl
        have ek:∀ v,a'.eval (.const v)=v:=fun _=>rfl
        generalize a'.eval=ev at e0 ek ⊢
        simp [execOp,go_sem,e0] <;> first | omega | (intro hx9;exact absurd hx9 (by omega))
       | 1,_,hr =>
        have e60:a'.eval (.tmp 60)=(.string (tx t)):=hJ.ex (j:=0) rfl hr (by kernel_rfl)
        refine hJ.pure_ hT rfl rfl rfl rfl (.int .u8 (bt t 0)) ?_ rfl
        have ek:∀ v,a'.eval (.const v)=v:=fun _=>rfl
        generalize a'.eval=ev at e60 ek ⊢
        simp [execOp,go_sem,ek,e60,h0] <;> first | omega | (intro hx9;exact absurd hx9 (by omega))
       | 2,_,hr =>
        have e0:a'.eval (.tmp 0)=(.string (tx t)):=hJ.old 0 rfl (by simp)
        refine hJ.pure_ hT rfl rfl rfl rfl (.string (tx t)) ?_ rfl
        have ek:∀ v,a'.eval (.const v)=v:=fun _=>rfl
        generalize a'.eval=ev at e0 ek ⊢
        simp [execOp,go_sem,e0] <;> first | omega | (intro hx9;exact absurd hx9 (by omega))
       | 3,_,hr =>
        have e62:a'.eval (.tmp 62)=(.string (tx t)):=hJ.ex (j:=2) rfl hr (by kernel_rfl)
        refine hJ.pure_ hT rfl rfl rfl rfl (.int .u8 (bt t 2)) ?_ rfl
        have ek:∀ v,a'.eval (.const v)=v:=fun _=>rfl
        generalize a'.eval=ev at e62 ek ⊢
        simp [execOp,go_sem,ek,e62] <;> first | omega | (intro hx9;exact absurd hx9 (by omega))
       | 4,_,hr =>
        have e61:a'.eval (.tmp 61)=(.int .u8 (bt t 0)):=hJ.ex (j:=1) rfl hr (by kernel_rfl)
        have e63:a'.eval (.tmp 63)=(.int .u8 (bt t 2)):=hJ.ex (j:=3) rfl hr (by kernel_rfl)
        refine hJ.call_ hT rfl rfl rfl rfl 102 #[.int .u8 (bt t 0),.int .u8 (bt t 2)] (by have hent:=enters_of Tryz.func102 (by kernel_rfl) (by kernel_rfl) #[.int .u8 (bt t 0),.int .u8 (bt t 2)] w';have ek:∀ v,a'.eval (.const v)=v:=fun _=>rfl;have ef:∀ f,a'.eval (.func f)=.func (.func f) #[] #[]:=fun _=>rfl;generalize a'.eval=ev at *;simp [execOp,resolve,invoke,Deferred.ofValue,go_sem,hent,ef,e61,e63]) ?_
        refine (span_any (bt t 0) (bt t 2) w').mono ?_
        rintro e w1 ⟨v,rfl,hv,hgv⟩
        exact ⟨v,rfl,hgv,hv.mono hJ.grows.below.size⟩
       | 5,_,hr =>
        have e0:a'.eval (.tmp 0)=(.string (tx t)):=hJ.old 0 rfl (by simp)
        refine hJ.pure_ hT rfl rfl rfl rfl (.string (tx t)) ?_ rfl
        have ek:∀ v,a'.eval (.const v)=v:=fun _=>rfl
        generalize a'.eval=ev at e0 ek ⊢
        simp [execOp,go_sem,e0] <;> first | omega | (intro hx9;exact absurd hx9 (by omega))
       | 6,_,hr =>
        have e65:a'.eval (.tmp 65)=(.string (tx t)):=hJ.ex (j:=5) rfl hr (by kernel_rfl)
        refine hJ.pure_ hT rfl rfl rfl rfl (.string (tx (t.drop 3))) ?_ rfl
        have ek:∀ v,a'.eval (.const v)=v:=fun _=>rfl
        generalize a'.eval=ev at e65 ek ⊢
        simp [execOp,go_sem,ek,e65] <;> first | omega | (intro hx9;exact absurd hx9 (by omega))
       | 7,_,hr =>
        have e0:a'.eval (.tmp 0)=(.string (tx t)):=hJ.old 0 rfl (by simp)
        refine hJ.pure_ hT rfl rfl rfl rfl (.string (tx t)) ?_ rfl
        have ek:∀ v,a'.eval (.const v)=v:=fun _=>rfl
        generalize a'.eval=ev at e0 ek ⊢
        simp [execOp,go_sem,e0] <;> first | omega | (intro hx9;exact absurd hx9 (by omega))
       | 8,_,hr =>
        have e67:a'.eval (.tmp 67)=(.string (tx t)):=hJ.ex (j:=7) rfl hr (by kernel_rfl)
        refine hJ.pure_ hT rfl rfl rfl rfl (.int .u8 (bt t 0)) ?_ rfl
        have ek:∀ v,a'.eval (.const v)=v:=fun _=>rfl
        generalize a'.eval=ev at e67 ek ⊢
        simp [execOp,go_sem,ek,e67,h0] <;> first | omega | (intro hx9;exact absurd hx9 (by omega))
       | 9,_,hr =>
        have e0:a'.eval (.tmp 0)=(.string (tx t)):=hJ.old 0 rfl (by simp)
        refine hJ.pure_ hT rfl rfl rfl rfl (.string (tx t)) ?_ rfl
        have ek:∀ v,a'.eval (.const v)=v:=fun _=>rfl
        generalize a'.eval=ev at e0 ek ⊢
        simp [execOp,go_sem,e0] <;> first | omega | (intro hx9;exact absurd hx9 (by omega))
       | 10,_,hr =>
        have e69:a'.eval (.tmp 69)=(.string (tx t)):=hJ.ex (j:=9) rfl hr (by kernel_rfl)
        refine hJ.pure_ hT rfl rfl rfl rfl (.int .u8 (bt t 2)) ?_ rfl
        have ek:∀ v,a'.eval (.const v)=v:=fun _=>rfl
        generalize a'.eval=ev at e69 ek ⊢
        simp [execOp,go_sem,ek,e69] <;> first | omega | (intro hx9;exact absurd hx9 (by omega))
       | 11,_,hr =>
        have e68:a'.eval (.tmp 68)=(.int .u8 (bt t 0)):=hJ.ex (j:=8) rfl hr (by kernel_rfl)
        have e70:a'.eval (.tmp 70)=(.int .u8 (bt t 2)):=hJ.ex (j:=10) rfl hr (by kernel_rfl)
        refine hJ.pure_ hT rfl rfl rfl rfl (.bool false) ?_ rfl
        have ek:∀ v,a'.eval (.const v)=v:=fun _=>rfl
        generalize a'.eval=ev at e68 e70 ek ⊢
        simp [execOp,go_sem,e68,e70] <;> first | omega | (intro hx9;exact absurd hx9 (by omega))
       | 12,_,hr =>
        have e71:a'.eval (.tmp 71)=(.bool false):=hJ.ex (j:=11) rfl hr (by kernel_rfl)
        refine hJ.pure_ hT rfl rfl rfl rfl (.bool false) ?_ rfl
        have ek:∀ v,a'.eval (.const v)=v:=fun _=>rfl
        generalize a'.eval=ev at e71 ek ⊢
        simp [execOp,go_sem,e71] <;> first | omega | (intro hx9;exact absurd hx9 (by omega))
       | 13,_,hr =>
        have e0:a'.eval (.tmp 0)=(.string (tx t)):=hJ.old 0 rfl (by simp)
        have e72:a'.eval (.tmp 72)=(.bool false):=hJ.ex (j:=12) rfl hr (by kernel_rfl)
        exact hJ.skip hT rfl rfl rfl ((wanted_of (k:=12) (b:=true) rfl rfl rfl e72).trans (by decide)) rfl
       | 14,_,hr =>
        have e72:a'.eval (.tmp 72)=(.bool false):=hJ.ex (j:=12) rfl hr (by kernel_rfl)
        exact hJ.skip hT rfl rfl rfl ((wanted_of (k:=12) (b:=true) rfl rfl rfl e72).trans (by decide)) rfl
       | 15,_,hr =>
        have e72:a'.eval (.tmp 72)=(.bool false):=hJ.ex (j:=12) rfl hr (by kernel_rfl)
        exact hJ.skip hT rfl rfl rfl ((wanted_of (k:=12) (b:=true) rfl rfl rfl e72).trans (by decide)) rfl
       | 16,_,hr =>
        have e72:a'.eval (.tmp 72)=(.bool false):=hJ.ex (j:=12) rfl hr (by kernel_rfl)
        exact hJ.skip hT rfl rfl rfl ((wanted_of (k:=12) (b:=true) rfl rfl rfl e72).trans (by decide)) rfl
       | 17,_,hr =>
        have e72:a'.eval (.tmp 72)=(.bool false):=hJ.ex (j:=12) rfl hr (by kernel_rfl)
        refine hJ.pure_ hT rfl rfl rfl rfl (.bool false) ?_ rfl
        have ek:∀ v,a'.eval (.const v)=v:=fun _=>rfl
        generalize a'.eval=ev at e72 ek ⊢
        simp [execOp,go_sem,ek,e72] <;> first | omega | (intro hx9;exact absurd hx9 (by omega))
       | 18,_,hr =>
        have e64:(fun w1 v=>Tells w.heap.size w1 v (spanP (bt t 0) (bt t 2))) w' (a'.eval (.tmp 64)):=hJ.has (j:=4) rfl hr (by kernel_rfl)
        exact hJ.pure_ hT rfl rfl rfl rfl (a'.eval (.tmp 64)) rfl e64
       | 19,_,hr =>
        have e66:a'.eval (.tmp 66)=(.string (tx (t.drop 3))):=hJ.ex (j:=6) rfl hr (by kernel_rfl)
        refine hJ.pure_ hT rfl rfl rfl rfl (.string (tx (t.drop 3))) ?_ rfl
        have ek:∀ v,a'.eval (.const v)=v:=fun _=>rfl
        generalize a'.eval=ev at e66 ek ⊢
        simp [execOp,go_sem,e66] <;> first | omega | (intro hx9;exact absurd hx9 (by omega))
       | 20,_,hr =>
        have e77:a'.eval (.tmp 77)=(.bool false):=hJ.ex (j:=17) rfl hr (by kernel_rfl)
        refine hJ.pure_ hT rfl rfl rfl rfl (.bool false) ?_ rfl
        have ek:∀ v,a'.eval (.const v)=v:=fun _=>rfl
        generalize a'.eval=ev at e77 ek ⊢
        simp [execOp,go_sem,e77] <;> first | omega | (intro hx9;exact absurd hx9 (by omega))
       | n+21,hi,_=>exact absurd hi (by omega)
      case fin =>
       intro a' w' _ hdf hg hv ho
       have e2:Tells w.heap.size w' (a'.eval (.tmp 2)) (spanP (bt t 0) (bt t 2)):=hv 18 2 _ rfl
       have e3:a'.eval (.tmp 3)=.string (tx (t.drop 3)):=hv 19 3 _ rfl
       have e4:a'.eval (.tmp 4)=.bool false:=hv 20 4 _ rfl
       have f3:a'.tmps[3]?.getD undef=.string (tx (t.drop 3)):=by simpa [Act.eval] using e3
       have f4:a'.tmps[4]?.getD undef=.bool false:=by simpa [Act.eval] using e4
       have f2:a'.tmps[2]?.getD undef=a'.eval (.tmp 2):=by simp [Act.eval]
       generalize a'.eval (.tmp 2)=v2 at *
       clear hv ho e3 e4
       go_wp2_with fail
       exact bodyPost_ret (v:=.tuple #[v2,.string (tx (t.drop 3)),.bool false]) (by simp [results,Tryz.results87,go_sem,f2,f3,f4]) hdf ⟨v2,_,_,rfl,by rw [HP.out];rfl,fun x h=>(by rw [HP.out] at h;cases h),hg⟩
    ·rw [if_neg h3] at HP
     have c0:(0:Int) < (t.length:Int):=by omega
     have c0b:(1:Int)≤(t.length:Int):=by omega
     have hx1:(tx t).extract 1 t.length=tx (t.drop 1):=tx_from t 1
     clear h1 h2
     by_cases g1:2 < t.length
     ·have c1:(2:Int) < (t.length:Int):=by omega
      have c1b:(1:Int) < (t.length:Int):=by omega
      by_cases g2:bt t 1=45
      ·have c2:((bt t 1:Int) == 45)=true:=ieq_true (by omega)
       have g3:bt t 2=93:=Classical.byContradiction fun g=>h3 ⟨g1,g2,g⟩
       have c3:((bt t 2:Int) != 93)=false:=by simp;omega
       clear h3 g3 g2
       go_upto_region 12 with fail
       refine region_vals [(78,Ex (.string (tx t))),(79,Ex (.int .u8 (bt t 0))),(80,Ex (.string (tx t))),(81,Ex (.int .u8 (bt t 0))),(82,fun w1 v=>Tells w.heap.size w1 v (spanP (bt t 0) (bt t 0))),(83,Ex (.string (tx t))),(84,Ex (.string (tx (t.drop 1)))),(2,fun w1 v=>Tells w.heap.size w1 v (spanP (bt t 0) (bt t 0))),(3,Ex (.string (tx (t.drop 1)))),(4,Ex (.bool true))] (by kernel_rfl) (by kernel_rfl) rfl ?tab ?step ?fin
       case tab=>exact tab_of 85 [78,79,80,81,82,83,84,2,3,4] rfl rfl (by decide) (by decide) (stays_cons (Ex.stays _) <| stays_cons (Ex.stays _) <| stays_cons (Ex.stays _) <| stays_cons (Ex.stays _) <| stays_cons (show Stays (fun w1 v=>Tells w.heap.size w1 v (spanP (bt t 0) (bt t 0))) from fun _ _ _ hg h=>h.grows hg) <| stays_cons (Ex.stays _) <| stays_cons (Ex.stays _) <| stays_cons (show Stays (fun w1 v=>Tells w.heap.size w1 v (spanP (bt t 0) (bt t 0))) from fun _ _ _ hg h=>h.grows hg) <| stays_cons (Ex.stays _) <| stays_cons (Ex.stays _) <| stays_nil)
       case step =>
        intro hT i done a' w' hi hJ hr
        have hi:i < 10:=hi
        match i,hi,hr with
        | 0,_,hr =>
         have e0:a'.eval (.tmp 0)=(.string (tx t)):=hJ.old 0 rfl (by simp)
         refine hJ.pure_ hT rfl rfl rfl rfl (.string (tx t)) ?_ rfl
         have ek:∀ v,a'.eval (.const v)=v:=fun _=>rfl
         generalize a'.eval=ev at e0 ek ⊢
         simp [execOp,go_sem,e0] <;> first | omega | (intro hx9;exact absurd hx9 (by omega))
        | 1,_,hr =>
         have e78:a'.eval (.tmp 78)=(.string (tx t)):=hJ.ex (j:=0) rfl hr (by kernel_rfl)
         refine hJ.pure_ hT rfl rfl rfl rfl (.int .u8 (bt t 0)) ?_ rfl
         have ek:∀ v,a'.eval (.const v)=v:=fun _=>rfl
         generalize a'.eval=ev at e78 ek ⊢
         simp [execOp,go_sem,ek,e78,h0] <;> first | omega | (intro hx9;exact absurd hx9 (by omega))
        | 2,_,hr =>
         have e0:a'.eval (.tmp 0)=(.string (tx t)):=hJ.old 0 rfl (by simp)
         refine hJ.pure_ hT rfl rfl rfl rfl (.string (tx t)) ?_ rfl
         have ek:∀ v,a'.eval (.const v)=v:=fun _=>rfl
         generalize a'.eval=ev at e0 ek ⊢
         simp [execOp,go_sem,e0] <;> first | omega | (intro hx9;exact absurd hx9 (by omega))
        | 3,_,hr =>
         have e80:a'.eval (.tmp 80)=(.string (tx t)):=hJ.ex (j:=2) rfl hr (by kernel_rfl)
         refine hJ.pure_ hT rfl rfl rfl rfl (.int .u8 (bt t 0)) ?_ rfl
         have ek:∀ v,a'.eval (.const v)=v:=fun _=>rfl
         generalize a'.eval=ev at e80 ek ⊢
         simp [execOp,go_sem,ek,e80,h0] <;> first | omega | (intro hx9;exact absurd hx9 (by omega))
        | 4,_,hr =>
         have e79:a'.eval (.tmp 79)=(.int .u8 (bt t 0)):=hJ.ex (j:=1) rfl hr (by kernel_rfl)
         have e81:a'.eval (.tmp 81)=(.int .u8 (bt t 0)):=hJ.ex (j:=3) rfl hr (by kernel_rfl)
         refine hJ.call_ hT rfl rfl rfl rfl 102 #[.int .u8 (bt t 0),.int .u8 (bt t 0)] (by have hent:=enters_of Tryz.func102 (by kernel_rfl) (by kernel_rfl) #[.int .u8 (bt t 0),.int .u8 (bt t 0)] w';have ek:∀ v,a'.eval (.const v)=v:=fun _=>rfl;have ef:∀ f,a'.eval (.func f)=.func (.func f) #[] #[]:=fun _=>rfl;generalize a'.eval=ev at *;simp [execOp,resolve,invoke,Deferred.ofValue,go_sem,hent,ef,e79,e81]) ?_
         refine (span_any (bt t 0) (bt t 0) w').mono ?_
         rintro e w1 ⟨v,rfl,hv,hgv⟩
         exact ⟨v,rfl,hgv,hv.mono hJ.grows.below.size⟩
        | 5,_,hr =>
         have e0:a'.eval (.tmp 0)=(.string (tx t)):=hJ.old 0 rfl (by simp)
         refine hJ.pure_ hT rfl rfl rfl rfl (.string (tx t)) ?_ rfl
         have ek:∀ v,a'.eval (.const v)=v:=fun _=>rfl
         generalize a'.eval=ev at e0 ek ⊢
         simp [execOp,go_sem,e0] <;> first | omega | (intro hx9;exact absurd hx9 (by omega))
        | 6,_,hr =>
         have e83:a'.eval (.tmp 83)=(.string (tx t)):=hJ.ex (j:=5) rfl hr (by kernel_rfl)
         refine hJ.pure_ hT rfl rfl rfl rfl (.string (tx (t.drop 1))) ?_ rfl
         have ek:∀ v,a'.eval (.const v)=v:=fun _=>rfl
         generalize a'.eval=ev at e83 ek ⊢
         simp [execOp,go_sem,ek,e83] <;> first | omega | (intro hx9;exact absurd hx9 (by omega))
        | 7,_,hr =>
         have e82:(fun w1 v=>Tells w.heap.size w1 v (spanP (bt t 0) (bt t 0))) w' (a'.eval (.tmp 82)):=hJ.has (j:=4) rfl hr (by kernel_rfl)
         exact hJ.pure_ hT rfl rfl rfl rfl (a'.eval (.tmp 82)) rfl e82
        | 8,_,hr =>
         have e84:a'.eval (.tmp 84)=(.string (tx (t.drop 1))):=hJ.ex (j:=6) rfl hr (by kernel_rfl)
         refine hJ.pure_ hT rfl rfl rfl rfl (.string (tx (t.drop 1))) ?_ rfl
         have ek:∀ v,a'.eval (.const v)=v:=fun _=>rfl
         generalize a'.eval=ev at e84 ek ⊢
         simp [execOp,go_sem,e84] <;> first | omega | (intro hx9;exact absurd hx9 (by omega))
        | 9,_,hr =>
         refine hJ.pure_ hT rfl rfl rfl rfl (.bool true) ?_ rfl
         have ek:∀ v,a'.eval (.const v)=v:=fun _=>rfl
         generalize a'.eval=ev at  ek ⊢
         simp [execOp,go_sem,ek] <;> first | omega | (intro hx9;exact absurd hx9 (by omega))
        | n+10,hi,_=>exact absurd hi (by omega)
       case fin =>
        intro a' w' _ hdf hg hv ho
        have e2:Tells w.heap.size w' (a'.eval (.tmp 2)) (spanP (bt t 0) (bt t 0)):=hv 7 2 _ rfl
        have e3:a'.eval (.tmp 3)=.string (tx (t.drop 1)):=hv 8 3 _ rfl
        have e4:a'.eval (.tmp 4)=.bool true:=hv 9 4 _ rfl
        have f3:a'.tmps[3]?.getD undef=.string (tx (t.drop 1)):=by simpa [Act.eval] using e3
        have f4:a'.tmps[4]?.getD undef=.bool true:=by simpa [Act.eval] using e4
        have f2:a'.tmps[2]?.getD undef=a'.eval (.tmp 2):=by simp [Act.eval]
        generalize a'.eval (.tmp 2)=v2 at *
        clear hv ho e3 e4
        go_wp2_with fail
        exact bodyPost_ret (v:=.tuple #[v2,.string (tx (t.drop 1)),.bool true]) (by simp [results,Tryz.results87,go_sem,f2,f3,f4]) hdf ⟨v2,_,_,rfl,by rw [HP.out];rfl,fun x h=>(by rw [HP.out] at h;injection h with h;subst h;exact ⟨rfl,e2⟩),hg⟩
      ·have c2:((bt t 1:Int) == 45)=false:=ieq_false (by omega)
       clear h3 g2
       go_upto_region 12 with fail
       refine region_vals [(78,Ex (.string (tx t))),(79,Ex (.int .u8 (bt t 0))),(80,Ex (.string (tx t))),(81,Ex (.int .u8 (bt t 0))),(82,fun w1 v=>Tells w.heap.size w1 v (spanP (bt t 0) (bt t 0))),(83,Ex (.string (tx t))),(84,Ex (.string (tx (t.drop 1)))),(2,fun w1 v=>Tells w.heap.size w1 v (spanP (bt t 0) (bt t 0))),(3,Ex (.string (tx (t.drop 1)))),(4,Ex (.bool true))] (by kernel_rfl) (by kernel_rfl) rfl ?tab ?step ?fin
       case tab=>exact tab_of 85 [78,79,80,81,82,83,84,2,3,4] rfl rfl (by decide) (by decide) (stays_cons (Ex.stays _) <| stays_cons (Ex.stays _) <| stays_cons (Ex.stays _) <| stays_cons (Ex.stays _) <| stays_cons (show Stays (fun w1 v=>Tells w.heap.size w1 v (spanP (bt t 0) (bt t 0))) from fun _ _ _ hg h=>h.grows hg) <| stays_cons (Ex.stays _) <| stays_cons (Ex.stays _) <| stays_cons (show Stays (fun w1 v=>Tells w.heap.size w1 v (spanP (bt t 0) (bt t 0))) from fun _ _ _ hg h=>h.grows hg) <| stays_cons (Ex.stays _) <| stays_cons (Ex.stays _) <| stays_nil)
       case step =>
        intro hT i done a' w' hi hJ hr
        have hi:i < 10:=hi
        match i,hi,hr with
        | 0,_,hr =>
         have e0:a'.eval (.tmp 0)=(.string (tx t)):=hJ.old 0 rfl (by simp)
         refine hJ.pure_ hT rfl rfl rfl rfl (.string (tx t)) ?_ rfl
         have ek:∀ v,a'.eval (.const v)=v:=fun _=>rfl
         generalize a'.eval=ev at e0 ek ⊢
         simp [execOp,go_sem,e0] <;> first | omega | (intro hx9;exact absurd hx9 (by omega))
        | 1,_,hr =>
         have e78:a'.eval (.tmp 78)=(.string (tx t)):=hJ.ex (j:=0) rfl hr (by kernel_rfl)
         refine hJ.pure_ hT rfl rfl rfl rfl (.int .u8 (bt t 0)) ?_ rfl
         have ek:∀ v,a'.eval (.const v)=v:=fun _=>rfl
         generalize a'.eval=ev at e78 ek ⊢
         simp [execOp,go_sem,ek,e78,h0] <;> first | omega | (intro hx9;exact absurd hx9 (by omega))
        | 2,_,hr =>
         have e0:a'.eval (.tmp 0)=(.string (tx t)):=hJ.old 0 rfl (by simp)
         refine hJ.pure_ hT rfl rfl rfl rfl (.string (tx t)) ?_ rfl
         have ek:∀ v,a'.eval (.const v)=v:=fun _=>rfl
         generalize a'.eval=ev at e0 ek ⊢
         simp [execOp,go_sem,e0] <;> first | omega | (intro hx9;exact absurd hx9 (by omega))
        | 3,_,hr =>
         have e80:a'.eval (.tmp 80)=(.string (tx t)):=hJ.ex (j:=2) rfl hr (by kernel_rfl)
         refine hJ.pure_ hT rfl rfl rfl rfl (.int .u8 (bt t 0)) ?_ rfl
         have ek:∀ v,a'.eval (.const v)=v:=fun _=>rfl
         generalize a'.eval=ev at e80 ek ⊢
         simp [execOp,go_sem,ek,e80,h0] <;> first | omega | (intro hx9;exact absurd hx9 (by omega))
        | 4,_,hr =>
         have e79:a'.eval (.tmp 79)=(.int .u8 (bt t 0)):=hJ.ex (j:=1) rfl hr (by kernel_rfl)
         have e81:a'.eval (.tmp 81)=(.int .u8 (bt t 0)):=hJ.ex (j:=3) rfl hr (by kernel_rfl)
         refine hJ.call_ hT rfl rfl rfl rfl 102 #[.int .u8 (bt t 0),.int .u8 (bt t 0)] (by have hent:=enters_of Tryz.func102 (by kernel_rfl) (by kernel_rfl) #[.int .u8 (bt t 0),.int .u8 (bt t 0)] w';have ek:∀ v,a'.eval (.const v)=v:=fun _=>rfl;have ef:∀ f,a'.eval (.func f)=.func (.func f) #[] #[]:=fun _=>rfl;generalize a'.eval=ev at *;simp [execOp,resolve,invoke,Deferred.ofValue,go_sem,hent,ef,e79,e81]) ?_
         refine (span_any (bt t 0) (bt t 0) w').mono ?_
         rintro e w1 ⟨v,rfl,hv,hgv⟩
         exact ⟨v,rfl,hgv,hv.mono hJ.grows.below.size⟩
        | 5,_,hr =>
         have e0:a'.eval (.tmp 0)=(.string (tx t)):=hJ.old 0 rfl (by simp)
         refine hJ.pure_ hT rfl rfl rfl rfl (.string (tx t)) ?_ rfl
         have ek:∀ v,a'.eval (.const v)=v:=fun _=>rfl
         generalize a'.eval=ev at e0 ek ⊢
         simp [execOp,go_sem,e0] <;> first | omega | (intro hx9;exact absurd hx9 (by omega))
        | 6,_,hr =>
         have e83:a'.eval (.tmp 83)=(.string (tx t)):=hJ.ex (j:=5) rfl hr (by kernel_rfl)
         refine hJ.pure_ hT rfl rfl rfl rfl (.string (tx (t.drop 1))) ?_ rfl
         have ek:∀ v,a'.eval (.const v)=v:=fun _=>rfl
         generalize a'.eval=ev at e83 ek ⊢
         simp [execOp,go_sem,ek,e83] <;> first | omega | (intro hx9;exact absurd hx9 (by omega))
        | 7,_,hr =>
         have e82:(fun w1 v=>Tells w.heap.size w1 v (spanP (bt t 0) (bt t 0))) w' (a'.eval (.tmp 82)):=hJ.has (j:=4) rfl hr (by kernel_rfl)
         exact hJ.pure_ hT rfl rfl rfl rfl (a'.eval (.tmp 82)) rfl e82
        | 8,_,hr =>
         have e84:a'.eval (.tmp 84)=(.string (tx (t.drop 1))):=hJ.ex (j:=6) rfl hr (by kernel_rfl)
         refine hJ.pure_ hT rfl rfl rfl rfl (.string (tx (t.drop 1))) ?_ rfl
         have ek:∀ v,a'.eval (.const v)=v:=fun _=>rfl
         generalize a'.eval=ev at e84 ek ⊢
         simp [execOp,go_sem,e84] <;> first | omega | (intro hx9;exact absurd hx9 (by omega))
        | 9,_,hr =>
         refine hJ.pure_ hT rfl rfl rfl rfl (.bool true) ?_ rfl
         have ek:∀ v,a'.eval (.const v)=v:=fun _=>rfl
         generalize a'.eval=ev at  ek ⊢
         simp [execOp,go_sem,ek] <;> first | omega | (intro hx9;exact absurd hx9 (by omega))
        | n+10,hi,_=>exact absurd hi (by omega)
       case fin =>
        intro a' w' _ hdf hg hv ho
        have e2:Tells w.heap.size w' (a'.eval (.tmp 2)) (spanP (bt t 0) (bt t 0)):=hv 7 2 _ rfl
        have e3:a'.eval (.tmp 3)=.string (tx (t.drop 1)):=hv 8 3 _ rfl
        have e4:a'.eval (.tmp 4)=.bool true:=hv 9 4 _ rfl
        have f3:a'.tmps[3]?.getD undef=.string (tx (t.drop 1)):=by simpa [Act.eval] using e3
        have f4:a'.tmps[4]?.getD undef=.bool true:=by simpa [Act.eval] using e4
        have f2:a'.tmps[2]?.getD undef=a'.eval (.tmp 2):=by simp [Act.eval]
        generalize a'.eval (.tmp 2)=v2 at *
        clear hv ho e3 e4
        go_wp2_with fail
        exact bodyPost_ret (v:=.tuple #[v2,.string (tx (t.drop 1)),.bool true]) (by simp [results,Tryz.results87,go_sem,f2,f3,f4]) hdf ⟨v2,_,_,rfl,by rw [HP.out];rfl,fun x h=>(by rw [HP.out] at h;injection h with h;subst h;exact ⟨rfl,e2⟩),hg⟩
     ·have c1:¬(2:Int) < (t.length:Int):=by omega
      clear h3
      go_upto_region 12 with fail
      refine region_vals [(78,Ex (.string (tx t))),(79,Ex (.int .u8 (bt t 0))),(80,Ex (.string (tx t))),(81,Ex (.int .u8 (bt t 0))),(82,fun w1 v=>Tells w.heap.size w1 v (spanP (bt t 0) (bt t 0))),(83,Ex (.string (tx t))),(84,Ex (.string (tx (t.drop 1)))),(2,fun w1 v=>Tells w.heap.size w1 v (spanP (bt t 0) (bt t 0))),(3,Ex (.string (tx (t.drop 1)))),(4,Ex (.bool true))] (by kernel_rfl) (by kernel_rfl) rfl ?tab ?step ?fin
      case tab=>exact tab_of 85 [78,79,80,81,82,83,84,2,3,4] rfl rfl (by decide) (by decide) (stays_cons (Ex.stays _) <| stays_cons (Ex.stays _) <| stays_cons (Ex.stays _) <| stays_cons (Ex.stays _) <| stays_cons (show Stays (fun w1 v=>Tells w.heap.size w1 v (spanP (bt t 0) (bt t 0))) from fun _ _ _ hg h=>h.grows hg) <| stays_cons (Ex.stays _) <| stays_cons (Ex.stays _) <| stays_cons (show Stays (fun w1 v=>Tells w.heap.size w1 v (spanP (bt t 0) (bt t 0))) from fun _ _ _ hg h=>h.grows hg) <| stays_cons (Ex.stays _) <| stays_cons (Ex.stays _) <| stays_nil)
      case step =>
       intro hT i done a' w' hi hJ hr
       have hi:i < 10:=hi
       match i,hi,hr with
       | 0,_,hr =>
        have e0:a'.eval (.tmp 0)=(.string (tx t)):=hJ.old 0 rfl (by simp)
        refine hJ.pure_ hT rfl rfl rfl rfl (.string (tx t)) ?_ rfl
        have ek:∀ v,a'.eval (.const v)=v:=fun _=>rfl
        generalize a'.eval=ev at e0 ek ⊢
        simp [execOp,go_sem,e0] <;> first | omega | (intro hx9;exact absurd hx9 (by omega))
       | 1,_,hr =>
        have e78:a'.eval (.tmp 78)=(.string (tx t)):=hJ.ex (j:=0) rfl hr (by kernel_rfl)
        refine hJ.pure_ hT rfl rfl rfl rfl (.int .u8 (bt t 0)) ?_ rfl
        have ek:∀ v,a'.eval (.const v)=v:=fun _=>rfl
        generalize a'.eval=ev at e78 ek ⊢
        simp [execOp,go_sem,ek,e78,h0] <;> first | omega | (intro hx9;exact absurd hx9 (by omega))
       | 2,_,hr =>
        have e0:a'.eval (.tmp 0)=(.string (tx t)):=hJ.old 0 rfl (by simp)
        refine hJ.pure_ hT rfl rfl rfl rfl (.string (tx t)) ?_ rfl
        have ek:∀ v,a'.eval (.const v)=v:=fun _=>rfl
        generalize a'.eval=ev at e0 ek ⊢
        simp [execOp,go_sem,e0] <;> first | omega | (intro hx9;exact absurd hx9 (by omega))
       | 3,_,hr =>
        have e80:a'.eval (.tmp 80)=(.string (tx t)):=hJ.ex (j:=2) rfl hr (by kernel_rfl)
        refine hJ.pure_ hT rfl rfl rfl rfl (.int .u8 (bt t 0)) ?_ rfl
        have ek:∀ v,a'.eval (.const v)=v:=fun _=>rfl
        generalize a'.eval=ev at e80 ek ⊢
        simp [execOp,go_sem,ek,e80,h0] <;> first | omega | (intro hx9;exact absurd hx9 (by omega))
       | 4,_,hr =>
        have e79:a'.eval (.tmp 79)=(.int .u8 (bt t 0)):=hJ.ex (j:=1) rfl hr (by kernel_rfl)
        have e81:a'.eval (.tmp 81)=(.int .u8 (bt t 0)):=hJ.ex (j:=3) rfl hr (by kernel_rfl)
        refine hJ.call_ hT rfl rfl rfl rfl 102 #[.int .u8 (bt t 0),.int .u8 (bt t 0)] (by have hent:=enters_of Tryz.func102 (by kernel_rfl) (by kernel_rfl) #[.int .u8 (bt t 0),.int .u8 (bt t 0)] w';have ek:∀ v,a'.eval (.const v)=v:=fun _=>rfl;have ef:∀ f,a'.eval (.func f)=.func (.func f) #[] #[]:=fun _=>rfl;generalize a'.eval=ev at *;simp [execOp,resolve,invoke,Deferred.ofValue,go_sem,hent,ef,e79,e81]) ?_
        refine (span_any (bt t 0) (bt t 0) w').mono ?_
        rintro e w1 ⟨v,rfl,hv,hgv⟩
        exact ⟨v,rfl,hgv,hv.mono hJ.grows.below.size⟩
       | 5,_,hr =>
        have e0:a'.eval (.tmp 0)=(.string (tx t)):=hJ.old 0 rfl (by simp)
        refine hJ.pure_ hT rfl rfl rfl rfl (.string (tx t)) ?_ rfl
        have ek:∀ v,a'.eval (.const v)=v:=fun _=>rfl
        generalize a'.eval=ev at e0 ek ⊢
        simp [execOp,go_sem,e0] <;> first | omega | (intro hx9;exact absurd hx9 (by omega))
       | 6,_,hr =>
        have e83:a'.eval (.tmp 83)=(.string (tx t)):=hJ.ex (j:=5) rfl hr (by kernel_rfl)
        refine hJ.pure_ hT rfl rfl rfl rfl (.string (tx (t.drop 1))) ?_ rfl
        have ek:∀ v,a'.eval (.const v)=v:=fun _=>rfl
        generalize a'.eval=ev at e83 ek ⊢
        simp [execOp,go_sem,ek,e83] <;> first | omega | (intro hx9;exact absurd hx9 (by omega))
       | 7,_,hr =>
        have e82:(fun w1 v=>Tells w.heap.size w1 v (spanP (bt t 0) (bt t 0))) w' (a'.eval (.tmp 82)):=hJ.has (j:=4) rfl hr (by kernel_rfl)
        exact hJ.pure_ hT rfl rfl rfl rfl (a'.eval (.tmp 82)) rfl e82
       | 8,_,hr =>
        have e84:a'.eval (.tmp 84)=(.string (tx (t.drop 1))):=hJ.ex (j:=6) rfl hr (by kernel_rfl)
        refine hJ.pure_ hT rfl rfl rfl rfl (.string (tx (t.drop 1))) ?_ rfl
        have ek:∀ v,a'.eval (.const v)=v:=fun _=>rfl
        generalize a'.eval=ev at e84 ek ⊢
        simp [execOp,go_sem,e84] <;> first | omega | (intro hx9;exact absurd hx9 (by omega))
       | 9,_,hr =>
        refine hJ.pure_ hT rfl rfl rfl rfl (.bool true) ?_ rfl
        have ek:∀ v,a'.eval (.const v)=v:=fun _=>rfl
        generalize a'.eval=ev at  ek ⊢
        simp [execOp,go_sem,ek] <;> first | omega | (intro hx9;exact absurd hx9 (by omega))
       | n+10,hi,_=>exact absurd hi (by omega)
      case fin =>
       intro a' w' _ hdf hg hv ho
       have e2:Tells w.heap.size w' (a'.eval (.tmp 2)) (spanP (bt t 0) (bt t 0)):=hv 7 2 _ rfl
       have e3:a'.eval (.tmp 3)=.string (tx (t.drop 1)):=hv 8 3 _ rfl
       have e4:a'.eval (.tmp 4)=.bool true:=hv 9 4 _ rfl
       have f3:a'.tmps[3]?.getD undef=.string (tx (t.drop 1)):=by simpa [Act.eval] using e3
       have f4:a'.tmps[4]?.getD undef=.bool true:=by simpa [Act.eval] using e4
       have f2:a'.tmps[2]?.getD undef=a'.eval (.tmp 2):=by simp [Act.eval]
       generalize a'.eval (.tmp 2)=v2 at *
       clear hv ho e3 e4
       go_wp2_with fail
       exact bodyPost_ret (v:=.tuple #[v2,.string (tx (t.drop 1)),.bool true]) (by simp [results,Tryz.results87,go_sem,f2,f3,f4]) hdf ⟨v2,_,_,rfl,by rw [HP.out];rfl,fun x h=>(by rw [HP.out] at h;injection h with h;subst h;exact ⟨rfl,e2⟩),hg⟩
   ·have d1:((kindN t:Int) == 58)=false:=ieq_false (by omega)
    have d2:((kindN t:Int) != 0)=true:=by simp;omega
    have hp:partV t=none:=by unfold partV;rw [if_neg h0,if_neg h1,if_pos h2]
    have HP:=Lib.hid hp
    clear hp hn0 hk0
    go_wp2_with fail
    go_ret3
    exact ⟨_,[],_,rfl,by rw [HP.out];rfl,fun x h=>(by rw [HP.out] at h;cases h),Grows.refl _⟩
end Go.Proofs.YtnjagecmhdagkaaGreatDoor
