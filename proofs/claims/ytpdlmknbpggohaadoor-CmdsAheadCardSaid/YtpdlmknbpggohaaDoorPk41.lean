/-
  Commands: what belongs to a command of a letter, walked. (Printed by cmdn2.py.)
-/
import Derived.Test.YtpdlmknbpggohaaDoorPk40
namespace Go.Proofs.YtpdlmknbpggohaaDoor
open Go.RowKit

attribute [local go_sem] tx_bt tx_from
section
variable {w : World} {g : Nat} {lv sv : Value} {x : Cm}
set_option maxRecDepth 3000 in
theorem named_97 (h : CmAt w g lv sv x) (s : List UInt8) (hl : s.length ≤ 1000) (hs : SaneB g w) :
    Calls Tryd.prog 18 #[.pointer (some ⟨g, 0, none⟩), .int .u8 97, .string (tx s)] w (CmPost w g lv sv (namedL x 97 s)) := by
  have c2 : w.cell? ⟨g, 2, none⟩ = some (.int .u8 x.name) := h.cell 2
  have hfr := h.free
  have ig := h.inh
  have H1 := Lib.hid (h.put 2 (.int .u8 97) (y := { x with name := 97 }) rfl)
  have hC1 := Lib.hid (chg_cell w g 2 (.int .u8 97))
  have HS1 := Lib.hid (hs.chg (chg_cell w g 2 (.int .u8 97)) fun b e => Nat.le_of_eq e.symm)
  clear h hs
  go_enter Tryd.func18, Tryd.ntmps18
  go_wp2_with fail
  (with_reducible refine (suffix_any H1.out s hl).mono ?_)
  intro e w2 hp
  obtain ⟨k, rfl, hpp⟩ := (hp.pre hC1.out).ret
  have HP := Lib.hid hpp
  clear hpp hp
  go_wp2_with fail
  go_ret
  exact HP.out
set_option maxRecDepth 3000 in
theorem named_99 (h : CmAt w g lv sv x) (s : List UInt8) (hl : s.length ≤ 1000) (hs : SaneB g w) :
    Calls Tryd.prog 18 #[.pointer (some ⟨g, 0, none⟩), .int .u8 99, .string (tx s)] w (CmPost w g lv sv (namedL x 99 s)) := by
  have c2 : w.cell? ⟨g, 2, none⟩ = some (.int .u8 x.name) := h.cell 2
  have hfr := h.free
  have ig := h.inh
  have H1 := Lib.hid (h.put 2 (.int .u8 99) (y := { x with name := 99 }) rfl)
  have hC1 := Lib.hid (chg_cell w g 2 (.int .u8 99))
  have HS1 := Lib.hid (hs.chg (chg_cell w g 2 (.int .u8 99)) fun b e => Nat.le_of_eq e.symm)
  clear h hs
  go_enter Tryd.func18, Tryd.ntmps18
  go_wp2_with fail
  (with_reducible refine (suffix_any H1.out s hl).mono ?_)
  intro e w2 hp
  obtain ⟨k, rfl, hpp⟩ := (hp.pre hC1.out).ret
  have HP := Lib.hid hpp
  clear hpp hp
  go_wp2_with fail
  go_ret
  exact HP.out
set_option maxRecDepth 3000 in
theorem named_105 (h : CmAt w g lv sv x) (s : List UInt8) (hl : s.length ≤ 1000) (hs : SaneB g w) :
    Calls Tryd.prog 18 #[.pointer (some ⟨g, 0, none⟩), .int .u8 105, .string (tx s)] w (CmPost w g lv sv (namedL x 105 s)) := by
  have c2 : w.cell? ⟨g, 2, none⟩ = some (.int .u8 x.name) := h.cell 2
  have hfr := h.free
  have ig := h.inh
  have H1 := Lib.hid (h.put 2 (.int .u8 105) (y := { x with name := 105 }) rfl)
  have hC1 := Lib.hid (chg_cell w g 2 (.int .u8 105))
  have HS1 := Lib.hid (hs.chg (chg_cell w g 2 (.int .u8 105)) fun b e => Nat.le_of_eq e.symm)
  clear h hs
  go_enter Tryd.func18, Tryd.ntmps18
  go_wp2_with fail
  (with_reducible refine (suffix_any H1.out s hl).mono ?_)
  intro e w2 hp
  obtain ⟨k, rfl, hpp⟩ := (hp.pre hC1.out).ret
  have HP := Lib.hid hpp
  clear hpp hp
  go_wp2_with fail
  go_ret
  exact HP.out
set_option maxRecDepth 3000 in
theorem named_100 (h : CmAt w g lv sv x) (s : List UInt8) (hl : s.length ≤ 1000) (hs : SaneB g w) :
    Calls Tryd.prog 18 #[.pointer (some ⟨g, 0, none⟩), .int .u8 100, .string (tx s)] w (CmPost w g lv sv (namedL x 100 s)) := by
  have c2 : w.cell? ⟨g, 2, none⟩ = some (.int .u8 x.name) := h.cell 2
  have hfr := h.free
  have ig := h.inh
  have H1 := Lib.hid (h.put 2 (.int .u8 100) (y := { x with name := 100 }) rfl)
  have hC1 := Lib.hid (chg_cell w g 2 (.int .u8 100))
  have HS1 := Lib.hid (hs.chg (chg_cell w g 2 (.int .u8 100)) fun b e => Nat.le_of_eq e.symm)
  clear h hs
  go_enter Tryd.func18, Tryd.ntmps18
  go_wp2_with fail
  (with_reducible refine (suffix_any H1.out s hl).mono ?_)
  intro e w2 hp
  obtain ⟨k, rfl, hpp⟩ := (hp.pre hC1.out).ret
  have HP := Lib.hid hpp
  clear hpp hp
  go_wp2_with fail
  go_ret
  exact HP.out
set_option maxRecDepth 3000 in
theorem named_106 (h : CmAt w g lv sv x) (s : List UInt8) (hl : s.length ≤ 1000) (hs : SaneB g w) :
    Calls Tryd.prog 18 #[.pointer (some ⟨g, 0, none⟩), .int .u8 106, .string (tx s)] w (CmPost w g lv sv (namedL x 106 s)) := by
  have c2 : w.cell? ⟨g, 2, none⟩ = some (.int .u8 x.name) := h.cell 2
  have hfr := h.free
  have ig := h.inh
  have H1 := Lib.hid (h.put 2 (.int .u8 106) (y := { x with name := 106 }) rfl)
  have hC1 := Lib.hid (chg_cell w g 2 (.int .u8 106))
  have HS1 := Lib.hid (hs.chg (chg_cell w g 2 (.int .u8 106)) fun b e => Nat.le_of_eq e.symm)
  clear h hs
  go_enter Tryd.func18, Tryd.ntmps18
  go_wp2_with fail
  (with_reducible refine (suffix_any H1.out s hl).mono ?_)
  intro e w2 hp
  obtain ⟨k, rfl, hpp⟩ := (hp.pre hC1.out).ret
  have HP := Lib.hid hpp
  clear hpp hp
  go_wp2_with fail
  go_ret
  exact HP.out
set_option maxRecDepth 3000 in
theorem named_108 (h : CmAt w g lv sv x) (s : List UInt8) (hl : s.length ≤ 1000) (hs : SaneB g w) :
    Calls Tryd.prog 18 #[.pointer (some ⟨g, 0, none⟩), .int .u8 108, .string (tx s)] w (CmPost w g lv sv (namedL x 108 s)) := by
  have c2 : w.cell? ⟨g, 2, none⟩ = some (.int .u8 x.name) := h.cell 2
  have hfr := h.free
  have ig := h.inh
  have H1 := Lib.hid (h.put 2 (.int .u8 108) (y := { x with name := 108 }) rfl)
  have hC1 := Lib.hid (chg_cell w g 2 (.int .u8 108))
  have HS1 := Lib.hid (hs.chg (chg_cell w g 2 (.int .u8 108)) fun b e => Nat.le_of_eq e.symm)
  clear h hs
  go_enter Tryd.func18, Tryd.ntmps18
  go_wp2_with fail
  (with_reducible refine (suffix_any H1.out s hl).mono ?_)
  intro e w2 hp
  obtain ⟨k, rfl, hpp⟩ := (hp.pre hC1.out).ret
  have HP := Lib.hid hpp
  clear hpp hp
  go_wp2_with fail
  go_ret
  exact HP.out
set_option maxRecDepth 3000 in
theorem named_110 (h : CmAt w g lv sv x) (s : List UInt8) (hl : s.length ≤ 1000) (hs : SaneB g w) :
    Calls Tryd.prog 18 #[.pointer (some ⟨g, 0, none⟩), .int .u8 110, .string (tx s)] w (CmPost w g lv sv (namedL x 110 s)) := by
  have c2 : w.cell? ⟨g, 2, none⟩ = some (.int .u8 x.name) := h.cell 2
  have hfr := h.free
  have ig := h.inh
  have H1 := Lib.hid (h.put 2 (.int .u8 110) (y := { x with name := 110 }) rfl)
  have hC1 := Lib.hid (chg_cell w g 2 (.int .u8 110))
  have HS1 := Lib.hid (hs.chg (chg_cell w g 2 (.int .u8 110)) fun b e => Nat.le_of_eq e.symm)
  clear h hs
  go_enter Tryd.func18, Tryd.ntmps18
  go_wp2_with fail
  (with_reducible refine (suffix_any H1.out s hl).mono ?_)
  intro e w2 hp
  obtain ⟨k, rfl, hpp⟩ := (hp.pre hC1.out).ret
  have HP := Lib.hid hpp
  clear hpp hp
  go_wp2_with fail
  go_ret
  exact HP.out
set_option maxRecDepth 3000 in
theorem named_112 (h : CmAt w g lv sv x) (s : List UInt8) (hl : s.length ≤ 1000) (hs : SaneB g w) :
    Calls Tryd.prog 18 #[.pointer (some ⟨g, 0, none⟩), .int .u8 112, .string (tx s)] w (CmPost w g lv sv (namedL x 112 s)) := by
  have c2 : w.cell? ⟨g, 2, none⟩ = some (.int .u8 x.name) := h.cell 2
  have hfr := h.free
  have ig := h.inh
  have H1 := Lib.hid (h.put 2 (.int .u8 112) (y := { x with name := 112 }) rfl)
  have hC1 := Lib.hid (chg_cell w g 2 (.int .u8 112))
  have HS1 := Lib.hid (hs.chg (chg_cell w g 2 (.int .u8 112)) fun b e => Nat.le_of_eq e.symm)
  clear h hs
  go_enter Tryd.func18, Tryd.ntmps18
  go_wp2_with fail
  (with_reducible refine (suffix_any H1.out s hl).mono ?_)
  intro e w2 hp
  obtain ⟨k, rfl, hpp⟩ := (hp.pre hC1.out).ret
  have HP := Lib.hid hpp
  clear hpp hp
  go_wp2_with fail
  go_ret
  exact HP.out
set_option maxRecDepth 3000 in
theorem named_117 (h : CmAt w g lv sv x) (s : List UInt8) (hl : s.length ≤ 1000) (hs : SaneB g w) :
    Calls Tryd.prog 18 #[.pointer (some ⟨g, 0, none⟩), .int .u8 117, .string (tx s)] w (CmPost w g lv sv (namedL x 117 s)) := by
  have c2 : w.cell? ⟨g, 2, none⟩ = some (.int .u8 x.name) := h.cell 2
  have hfr := h.free
  have ig := h.inh
  have H1 := Lib.hid (h.put 2 (.int .u8 117) (y := { x with name := 117 }) rfl)
  have hC1 := Lib.hid (chg_cell w g 2 (.int .u8 117))
  have HS1 := Lib.hid (hs.chg (chg_cell w g 2 (.int .u8 117)) fun b e => Nat.le_of_eq e.symm)
  clear h hs
  go_enter Tryd.func18, Tryd.ntmps18
  go_wp2_with fail
  (with_reducible refine (suffix_any H1.out s hl).mono ?_)
  intro e w2 hp
  obtain ⟨k, rfl, hpp⟩ := (hp.pre hC1.out).ret
  have HP := Lib.hid hpp
  clear hpp hp
  go_wp2_with fail
  go_ret
  exact HP.out
set_option maxRecDepth 3000 in
theorem named_61 (h : CmAt w g lv sv x) (s : List UInt8) (hl : s.length ≤ 1000) (hs : SaneB g w) :
    Calls Tryd.prog 18 #[.pointer (some ⟨g, 0, none⟩), .int .u8 61, .string (tx s)] w (CmPost w g lv sv (namedL x 61 s)) := by
  have c2 : w.cell? ⟨g, 2, none⟩ = some (.int .u8 x.name) := h.cell 2
  have hfr := h.free
  have ig := h.inh
  have H1 := Lib.hid (h.put 2 (.int .u8 61) (y := { x with name := 61 }) rfl)
  have hC1 := Lib.hid (chg_cell w g 2 (.int .u8 61))
  have HS1 := Lib.hid (hs.chg (chg_cell w g 2 (.int .u8 61)) fun b e => Nat.le_of_eq e.symm)
  clear h hs
  go_enter Tryd.func18, Tryd.ntmps18
  go_wp2_with fail
  (with_reducible refine (suffix_any H1.out s hl).mono ?_)
  intro e w2 hp
  obtain ⟨k, rfl, hpp⟩ := (hp.pre hC1.out).ret
  have HP := Lib.hid hpp
  clear hpp hp
  go_wp2_with fail
  go_ret
  exact HP.out
set_option maxRecDepth 3000 in
theorem named_62 (h : CmAt w g lv sv x) (s : List UInt8) (hl : s.length ≤ 1000) (hs : SaneB g w) :
    Calls Tryd.prog 18 #[.pointer (some ⟨g, 0, none⟩), .int .u8 62, .string (tx s)] w (CmPost w g lv sv (namedL x 62 s)) := by
  have c2 : w.cell? ⟨g, 2, none⟩ = some (.int .u8 x.name) := h.cell 2
  have hfr := h.free
  have ig := h.inh
  have H1 := Lib.hid (h.put 2 (.int .u8 62) (y := { x with name := 62 }) rfl)
  have hC1 := Lib.hid (chg_cell w g 2 (.int .u8 62))
  have HS1 := Lib.hid (hs.chg (chg_cell w g 2 (.int .u8 62)) fun b e => Nat.le_of_eq e.symm)
  clear h hs
  go_enter Tryd.func18, Tryd.ntmps18
  go_wp2_with fail
  (with_reducible refine (suffix_any H1.out s hl).mono ?_)
  intro e w2 hp
  obtain ⟨k, rfl, hpp⟩ := (hp.pre hC1.out).ret
  have HP := Lib.hid hpp
  clear hpp hp
  go_wp2_with fail
  go_ret
  exact HP.out
set_option maxRecDepth 3000 in
theorem named_60 (h : CmAt w g lv sv x) (s : List UInt8) (hl : s.length ≤ 1000) (hs : SaneB g w) :
    Calls Tryd.prog 18 #[.pointer (some ⟨g, 0, none⟩), .int .u8 60, .string (tx s)] w (CmPost w g lv sv (namedL x 60 s)) := by
  have c2 : w.cell? ⟨g, 2, none⟩ = some (.int .u8 x.name) := h.cell 2
  have hfr := h.free
  have ig := h.inh
  have H1 := Lib.hid (h.put 2 (.int .u8 60) (y := { x with name := 60 }) rfl)
  have hC1 := Lib.hid (chg_cell w g 2 (.int .u8 60))
  have HS1 := Lib.hid (hs.chg (chg_cell w g 2 (.int .u8 60)) fun b e => Nat.le_of_eq e.symm)
  clear h hs
  go_enter Tryd.func18, Tryd.ntmps18
  go_wp2_with fail
  (with_reducible refine (suffix_any H1.out s hl).mono ?_)
  intro e w2 hp
  obtain ⟨k, rfl, hpp⟩ := (hp.pre hC1.out).ret
  have HP := Lib.hid hpp
  clear hpp hp
  go_wp2_with fail
  go_ret
  exact HP.out
set_option maxRecDepth 3000 in
theorem named_107 (h : CmAt w g lv sv x) (s : List UInt8) (hl : s.length ≤ 1000) (hs : SaneB g w) :
    Calls Tryd.prog 18 #[.pointer (some ⟨g, 0, none⟩), .int .u8 107, .string (tx s)] w (CmPost w g lv sv (namedL x 107 s)) := by
  have c2 : w.cell? ⟨g, 2, none⟩ = some (.int .u8 x.name) := h.cell 2
  have hfr := h.free
  have ig := h.inh
  have H1 := Lib.hid (h.put 2 (.int .u8 107) (y := { x with name := 107 }) rfl)
  have hC1 := Lib.hid (chg_cell w g 2 (.int .u8 107))
  have HS1 := Lib.hid (hs.chg (chg_cell w g 2 (.int .u8 107)) fun b e => Nat.le_of_eq e.symm)
  clear h hs
  go_enter Tryd.func18, Tryd.ntmps18
  go_wp2_with fail
  (with_reducible refine (letter_cmd H1.out s hl true).mono ?_)
  intro e w2 hp
  obtain ⟨k, rfl, hpp⟩ := (hp.pre hC1.out).ret
  have HP := Lib.hid hpp
  clear hpp hp
  go_wp2_with fail
  go_ret
  exact HP.out
set_option maxRecDepth 3000 in
theorem named_109 (h : CmAt w g lv sv x) (s : List UInt8) (hl : s.length ≤ 1000) (hs : SaneB g w) :
    Calls Tryd.prog 18 #[.pointer (some ⟨g, 0, none⟩), .int .u8 109, .string (tx s)] w (CmPost w g lv sv (namedL x 109 s)) := by
  have c2 : w.cell? ⟨g, 2, none⟩ = some (.int .u8 x.name) := h.cell 2
  have hfr := h.free
  have ig := h.inh
  have H1 := Lib.hid (h.put 2 (.int .u8 109) (y := { x with name := 109 }) rfl)
  have hC1 := Lib.hid (chg_cell w g 2 (.int .u8 109))
  have HS1 := Lib.hid (hs.chg (chg_cell w g 2 (.int .u8 109)) fun b e => Nat.le_of_eq e.symm)
  clear h hs
  go_enter Tryd.func18, Tryd.ntmps18
  go_wp2_with fail
  (with_reducible refine (dest_cmd H1.out s hl).mono ?_)
  intro e w2 hp
  obtain ⟨k, rfl, hpp⟩ := (hp.pre hC1.out).ret
  have HP := Lib.hid hpp
  clear hpp hp
  go_wp2_with fail
  go_ret
  exact HP.out
set_option maxRecDepth 3000 in
theorem named_116 (h : CmAt w g lv sv x) (s : List UInt8) (hl : s.length ≤ 1000) (hs : SaneB g w) :
    Calls Tryd.prog 18 #[.pointer (some ⟨g, 0, none⟩), .int .u8 116, .string (tx s)] w (CmPost w g lv sv (namedL x 116 s)) := by
  have c2 : w.cell? ⟨g, 2, none⟩ = some (.int .u8 x.name) := h.cell 2
  have hfr := h.free
  have ig := h.inh
  have H1 := Lib.hid (h.put 2 (.int .u8 116) (y := { x with name := 116 }) rfl)
  have hC1 := Lib.hid (chg_cell w g 2 (.int .u8 116))
  have HS1 := Lib.hid (hs.chg (chg_cell w g 2 (.int .u8 116)) fun b e => Nat.le_of_eq e.symm)
  clear h hs
  go_enter Tryd.func18, Tryd.ntmps18
  go_wp2_with fail
  (with_reducible refine (dest_cmd H1.out s hl).mono ?_)
  intro e w2 hp
  obtain ⟨k, rfl, hpp⟩ := (hp.pre hC1.out).ret
  have HP := Lib.hid hpp
  clear hpp hp
  go_wp2_with fail
  go_ret
  exact HP.out
set_option maxRecDepth 3000 in
theorem named_115 (h : CmAt w g lv sv x) (s : List UInt8) (hl : s.length ≤ 1000) (hs : SaneB g w) :
    Calls Tryd.prog 18 #[.pointer (some ⟨g, 0, none⟩), .int .u8 115, .string (tx s)] w (CmPost w g lv sv (namedL x 115 s)) := by
  have c2 : w.cell? ⟨g, 2, none⟩ = some (.int .u8 x.name) := h.cell 2
  have hfr := h.free
  have ig := h.inh
  have H1 := Lib.hid (h.put 2 (.int .u8 115) (y := { x with name := 115 }) rfl)
  have hC1 := Lib.hid (chg_cell w g 2 (.int .u8 115))
  have HS1 := Lib.hid (hs.chg (chg_cell w g 2 (.int .u8 115)) fun b e => Nat.le_of_eq e.symm)
  clear h hs
  go_enter Tryd.func18, Tryd.ntmps18
  go_wp2_with fail
  (with_reducible refine (substitute_cmd H1.out s hl HS1.out).mono ?_)
  intro e w2 hp
  obtain ⟨k, rfl, hpp⟩ := (hp.pre hC1.out).ret
  have HP := Lib.hid hpp
  clear hpp hp
  go_wp2_with fail
  go_ret
  exact HP.out
set_option maxRecDepth 3000 in
theorem named_103 (h : CmAt w g lv sv x) (s : List UInt8) (hl : s.length ≤ 1000) (hs : SaneB g w) :
    Calls Tryd.prog 18 #[.pointer (some ⟨g, 0, none⟩), .int .u8 103, .string (tx s)] w (CmPost w g lv sv (namedL x 103 s)) := by
  have c2 : w.cell? ⟨g, 2, none⟩ = some (.int .u8 x.name) := h.cell 2
  have hfr := h.free
  have ig := h.inh
  have H1 := Lib.hid (h.put 2 (.int .u8 103) (y := { x with name := 103 }) rfl)
  have hC1 := Lib.hid (chg_cell w g 2 (.int .u8 103))
  have HS1 := Lib.hid (hs.chg (chg_cell w g 2 (.int .u8 103)) fun b e => Nat.le_of_eq e.symm)
  clear h hs
  go_enter Tryd.func18, Tryd.ntmps18
  go_wp2_with fail
  (with_reducible refine (global_cmd H1.out s hl HS1.out.sane).mono ?_)
  intro e w2 hp
  obtain ⟨k, rfl, hpp⟩ := (hp.pre hC1.out).ret
  have HP := Lib.hid hpp
  clear hpp hp
  go_wp2_with fail
  go_ret
  exact HP.out
set_option maxRecDepth 3000 in
theorem named_118 (h : CmAt w g lv sv x) (s : List UInt8) (hl : s.length ≤ 1000) (hs : SaneB g w) :
    Calls Tryd.prog 18 #[.pointer (some ⟨g, 0, none⟩), .int .u8 118, .string (tx s)] w (CmPost w g lv sv (namedL x 118 s)) := by
  have c2 : w.cell? ⟨g, 2, none⟩ = some (.int .u8 x.name) := h.cell 2
  have hfr := h.free
  have ig := h.inh
  have H1 := Lib.hid (h.put 2 (.int .u8 118) (y := { x with name := 118 }) rfl)
  have hC1 := Lib.hid (chg_cell w g 2 (.int .u8 118))
  have HS1 := Lib.hid (hs.chg (chg_cell w g 2 (.int .u8 118)) fun b e => Nat.le_of_eq e.symm)
  clear h hs
  go_enter Tryd.func18, Tryd.ntmps18
  go_wp2_with fail
  (with_reducible refine (global_cmd H1.out s hl HS1.out.sane).mono ?_)
  intro e w2 hp
  obtain ⟨k, rfl, hpp⟩ := (hp.pre hC1.out).ret
  have HP := Lib.hid hpp
  clear hpp hp
  go_wp2_with fail
  go_ret
  exact HP.out
set_option maxRecDepth 3000 in
theorem named_122 (h : CmAt w g lv sv x) (s : List UInt8) (hl : s.length ≤ 1000) (hs : SaneB g w) :
    Calls Tryd.prog 18 #[.pointer (some ⟨g, 0, none⟩), .int .u8 122, .string (tx s)] w (CmPost w g lv sv (namedL x 122 s)) := by
  have c2 : w.cell? ⟨g, 2, none⟩ = some (.int .u8 x.name) := h.cell 2
  have hfr := h.free
  have ig := h.inh
  have H1 := Lib.hid (h.put 2 (.int .u8 122) (y := { x with name := 122 }) rfl)
  have hC1 := Lib.hid (chg_cell w g 2 (.int .u8 122))
  have HS1 := Lib.hid (hs.chg (chg_cell w g 2 (.int .u8 122)) fun b e => Nat.le_of_eq e.symm)
  clear h hs
  go_enter Tryd.func18, Tryd.ntmps18
  go_wp2_with fail
  (with_reducible refine (count_cmd H1.out s hl).mono ?_)
  intro e w2 hp
  obtain ⟨k, rfl, hpp⟩ := (hp.pre hC1.out).ret
  have HP := Lib.hid hpp
  clear hpp hp
  go_wp2_with fail
  go_ret
  exact HP.out
set_option maxRecDepth 3000 in
theorem named_104 (h : CmAt w g lv sv x) (s : List UInt8) (hl : s.length ≤ 1000) (hs : SaneB g w) :
    Calls Tryd.prog 18 #[.pointer (some ⟨g, 0, none⟩), .int .u8 104, .string (tx s)] w (CmPost w g lv sv (namedL x 104 s)) := by
  have c2 : w.cell? ⟨g, 2, none⟩ = some (.int .u8 x.name) := h.cell 2
  have hfr := h.free
  have ig := h.inh
  have H1 := Lib.hid (h.put 2 (.int .u8 104) (y := { x with name := 104 }) rfl)
  have hC1 := Lib.hid (chg_cell w g 2 (.int .u8 104))
  have HS1 := Lib.hid (hs.chg (chg_cell w g 2 (.int .u8 104)) fun b e => Nat.le_of_eq e.symm)
  clear h hs
  go_enter Tryd.func18, Tryd.ntmps18
  cases s with
  | nil =>
    have he : (tx []).toList.isEmpty = true := empty_tx []
    go_wp2_with fail
    go_ret
    exact ⟨hC1.out, rfl, H1.out⟩
  | cons a r =>
    have he : (tx (a :: r)).toList.isEmpty = false := empty_tx (a :: r)
    go_wp2_with fail
    go_ret
    exact ⟨hC1.out, rfl⟩
set_option maxRecDepth 3000 in
theorem named_113 (h : CmAt w g lv sv x) (s : List UInt8) (hl : s.length ≤ 1000) (hs : SaneB g w) :
    Calls Tryd.prog 18 #[.pointer (some ⟨g, 0, none⟩), .int .u8 113, .string (tx s)] w (CmPost w g lv sv (namedL x 113 s)) := by
  have c2 : w.cell? ⟨g, 2, none⟩ = some (.int .u8 x.name) := h.cell 2
  have hfr := h.free
  have ig := h.inh
  have H1 := Lib.hid (h.put 2 (.int .u8 113) (y := { x with name := 113 }) rfl)
  have hC1 := Lib.hid (chg_cell w g 2 (.int .u8 113))
  have HS1 := Lib.hid (hs.chg (chg_cell w g 2 (.int .u8 113)) fun b e => Nat.le_of_eq e.symm)
  clear h hs
  go_enter Tryd.func18, Tryd.ntmps18
  cases s with
  | nil =>
    have he : (tx []).toList.isEmpty = true := empty_tx []
    go_wp2_with fail
    go_ret
    exact ⟨hC1.out, rfl, H1.out⟩
  | cons a r =>
    have he : (tx (a :: r)).toList.isEmpty = false := empty_tx (a :: r)
    go_wp2_with fail
    go_ret
    exact ⟨hC1.out, rfl⟩
set_option maxRecDepth 3000 in
theorem named_81 (h : CmAt w g lv sv x) (s : List UInt8) (hl : s.length ≤ 1000) (hs : SaneB g w) :
    Calls Tryd.prog 18 #[.pointer (some ⟨g, 0, none⟩), .int .u8 81, .string (tx s)] w (CmPost w g lv sv (namedL x 81 s)) := by
  have c2 : w.cell? ⟨g, 2, none⟩ = some (.int .u8 x.name) := h.cell 2
  have hfr := h.free
  have ig := h.inh
  have H1 := Lib.hid (h.put 2 (.int .u8 81) (y := { x with name := 81 }) rfl)
  have hC1 := Lib.hid (chg_cell w g 2 (.int .u8 81))
  have HS1 := Lib.hid (hs.chg (chg_cell w g 2 (.int .u8 81)) fun b e => Nat.le_of_eq e.symm)
  clear h hs
  go_enter Tryd.func18, Tryd.ntmps18
  cases s with
  | nil =>
    have he : (tx []).toList.isEmpty = true := empty_tx []
    go_wp2_with fail
    go_ret
    exact ⟨hC1.out, rfl, H1.out⟩
  | cons a r =>
    have he : (tx (a :: r)).toList.isEmpty = false := empty_tx (a :: r)
    go_wp2_with fail
    go_ret
    exact ⟨hC1.out, rfl⟩
set_option maxRecDepth 3000 in
theorem named_101 (h : CmAt w g lv sv x) (s : List UInt8) (hl : s.length ≤ 1000) (hs : SaneB g w) :
    Calls Tryd.prog 18 #[.pointer (some ⟨g, 0, none⟩), .int .u8 101, .string (tx s)] w (CmPost w g lv sv (namedL x 101 s)) := by
  have c2 : w.cell? ⟨g, 2, none⟩ = some (.int .u8 x.name) := h.cell 2
  have hfr := h.free
  have ig := h.inh
  have H1 := Lib.hid (h.put 2 (.int .u8 101) (y := { x with name := 101 }) rfl)
  have hC1 := Lib.hid (chg_cell w g 2 (.int .u8 101))
  have HS1 := Lib.hid (hs.chg (chg_cell w g 2 (.int .u8 101)) fun b e => Nat.le_of_eq e.symm)
  clear h hs
  go_enter Tryd.func18, Tryd.ntmps18
  go_wp2_with fail
  (with_reducible refine (asks_any s hl _).mono ?_)
  rintro e w2 ⟨hp, m, rfl⟩
  have H2 := Lib.hid (H1.out.grows (Grows.of _ m))
  have hC2 := Lib.hid (hC1.out.trans (Chg.of_grows (Grows.of _ m)))
  have d13 : (more (w.setCell ⟨g, 2, none⟩ (.int .u8 101)) m).cell? ⟨g, 13, none⟩ = some (.string (tx x.name2)) := H2.out.cell 13
  have hfr2 := H2.out.free
  clear c2 hfr ig
  have hR : namedL x 101 s = match asksL s with
    | .error e => .error e
    | .ok n => .ok { x with name := 101, name2 := n } := rfl
  have HR := Lib.hid hR
  clear hR
  cases ha : asksL s with
  | error n =>
    rw [ha] at hp HR
    have hp : e = .returned (.tuple #[.string (tx []), .int .i64 n]) := hp
    subst hp
    clear ha
    go_wp2_with fail
    go_ret
    refine ⟨?_, by rw [HR.out]; rfl⟩
    exact hC2.out.trans (chg_cell _ _ _ _)
  | ok n =>
    rw [ha] at hp HR
    have hp : e = .returned (.tuple #[.string (tx n), .int .i64 0]) := hp
    subst hp
    clear ha
    go_wp2_with fail
    go_ret
    refine ⟨?_, by rw [HR.out]; exact ⟨rfl, H2.out.put 13 _ rfl⟩⟩
    exact hC2.out.trans (chg_cell _ _ _ _)
set_option maxRecDepth 3000 in
theorem named_69 (h : CmAt w g lv sv x) (s : List UInt8) (hl : s.length ≤ 1000) (hs : SaneB g w) :
    Calls Tryd.prog 18 #[.pointer (some ⟨g, 0, none⟩), .int .u8 69, .string (tx s)] w (CmPost w g lv sv (namedL x 69 s)) := by
  have c2 : w.cell? ⟨g, 2, none⟩ = some (.int .u8 x.name) := h.cell 2
  have hfr := h.free
  have ig := h.inh
  have H1 := Lib.hid (h.put 2 (.int .u8 69) (y := { x with name := 69 }) rfl)
  have hC1 := Lib.hid (chg_cell w g 2 (.int .u8 69))
  have HS1 := Lib.hid (hs.chg (chg_cell w g 2 (.int .u8 69)) fun b e => Nat.le_of_eq e.symm)
  clear h hs
  go_enter Tryd.func18, Tryd.ntmps18
  go_wp2_with fail
  (with_reducible refine (asks_any s hl _).mono ?_)
  rintro e w2 ⟨hp, m, rfl⟩
  have H2 := Lib.hid (H1.out.grows (Grows.of _ m))
  have hC2 := Lib.hid (hC1.out.trans (Chg.of_grows (Grows.of _ m)))
  have d13 : (more (w.setCell ⟨g, 2, none⟩ (.int .u8 69)) m).cell? ⟨g, 13, none⟩ = some (.string (tx x.name2)) := H2.out.cell 13
  have hfr2 := H2.out.free
  clear c2 hfr ig
  have hR : namedL x 69 s = match asksL s with
    | .error e => .error e
    | .ok n => .ok { x with name := 69, name2 := n } := rfl
  have HR := Lib.hid hR
  clear hR
  cases ha : asksL s with
  | error n =>
    rw [ha] at hp HR
    have hp : e = .returned (.tuple #[.string (tx []), .int .i64 n]) := hp
    subst hp
    clear ha
    go_wp2_with fail
    go_ret
    refine ⟨?_, by rw [HR.out]; rfl⟩
    exact hC2.out.trans (chg_cell _ _ _ _)
  | ok n =>
    rw [ha] at hp HR
    have hp : e = .returned (.tuple #[.string (tx n), .int .i64 0]) := hp
    subst hp
    clear ha
    go_wp2_with fail
    go_ret
    refine ⟨?_, by rw [HR.out]; exact ⟨rfl, H2.out.put 13 _ rfl⟩⟩
    exact hC2.out.trans (chg_cell _ _ _ _)
set_option maxRecDepth 3000 in
theorem named_102 (h : CmAt w g lv sv x) (s : List UInt8) (hl : s.length ≤ 1000) (hs : SaneB g w) :
    Calls Tryd.prog 18 #[.pointer (some ⟨g, 0, none⟩), .int .u8 102, .string (tx s)] w (CmPost w g lv sv (namedL x 102 s)) := by
  have c2 : w.cell? ⟨g, 2, none⟩ = some (.int .u8 x.name) := h.cell 2
  have hfr := h.free
  have ig := h.inh
  have H1 := Lib.hid (h.put 2 (.int .u8 102) (y := { x with name := 102 }) rfl)
  have hC1 := Lib.hid (chg_cell w g 2 (.int .u8 102))
  have HS1 := Lib.hid (hs.chg (chg_cell w g 2 (.int .u8 102)) fun b e => Nat.le_of_eq e.symm)
  clear h hs
  go_enter Tryd.func18, Tryd.ntmps18
  go_wp2_with fail
  (with_reducible refine (asks_any s hl _).mono ?_)
  rintro e w2 ⟨hp, m, rfl⟩
  have H2 := Lib.hid (H1.out.grows (Grows.of _ m))
  have hC2 := Lib.hid (hC1.out.trans (Chg.of_grows (Grows.of _ m)))
  have d13 : (more (w.setCell ⟨g, 2, none⟩ (.int .u8 102)) m).cell? ⟨g, 13, none⟩ = some (.string (tx x.name2)) := H2.out.cell 13
  have hfr2 := H2.out.free
  clear c2 hfr ig
  have hR : namedL x 102 s = match asksL s with
    | .error e => .error e
    | .ok n => .ok { x with name := 102, name2 := n } := rfl
  have HR := Lib.hid hR
  clear hR
  cases ha : asksL s with
  | error n =>
    rw [ha] at hp HR
    have hp : e = .returned (.tuple #[.string (tx []), .int .i64 n]) := hp
    subst hp
    clear ha
    go_wp2_with fail
    go_ret
    refine ⟨?_, by rw [HR.out]; rfl⟩
    exact hC2.out.trans (chg_cell _ _ _ _)
  | ok n =>
    rw [ha] at hp HR
    have hp : e = .returned (.tuple #[.string (tx n), .int .i64 0]) := hp
    subst hp
    clear ha
    go_wp2_with fail
    go_ret
    refine ⟨?_, by rw [HR.out]; exact ⟨rfl, H2.out.put 13 _ rfl⟩⟩
    exact hC2.out.trans (chg_cell _ _ _ _)
set_option maxRecDepth 3000 in
theorem named_114 (h : CmAt w g lv sv x) (s : List UInt8) (hl : s.length ≤ 1000) (hs : SaneB g w) :
    Calls Tryd.prog 18 #[.pointer (some ⟨g, 0, none⟩), .int .u8 114, .string (tx s)] w (CmPost w g lv sv (namedL x 114 s)) := by
  have c2 : w.cell? ⟨g, 2, none⟩ = some (.int .u8 x.name) := h.cell 2
  have hfr := h.free
  have ig := h.inh
  have H1 := Lib.hid (h.put 2 (.int .u8 114) (y := { x with name := 114 }) rfl)
  have hC1 := Lib.hid (chg_cell w g 2 (.int .u8 114))
  have HS1 := Lib.hid (hs.chg (chg_cell w g 2 (.int .u8 114)) fun b e => Nat.le_of_eq e.symm)
  clear h hs
  go_enter Tryd.func18, Tryd.ntmps18
  go_wp2_with fail
  (with_reducible refine (asks_any s hl _).mono ?_)
  rintro e w2 ⟨hp, m, rfl⟩
  have H2 := Lib.hid (H1.out.grows (Grows.of _ m))
  have hC2 := Lib.hid (hC1.out.trans (Chg.of_grows (Grows.of _ m)))
  have d13 : (more (w.setCell ⟨g, 2, none⟩ (.int .u8 114)) m).cell? ⟨g, 13, none⟩ = some (.string (tx x.name2)) := H2.out.cell 13
  have hfr2 := H2.out.free
  clear c2 hfr ig
  have hR : namedL x 114 s = match asksL s with
    | .error e => .error e
    | .ok n => .ok { x with name := 114, name2 := n } := rfl
  have HR := Lib.hid hR
  clear hR
  cases ha : asksL s with
  | error n =>
    rw [ha] at hp HR
    have hp : e = .returned (.tuple #[.string (tx []), .int .i64 n]) := hp
    subst hp
    clear ha
    go_wp2_with fail
    go_ret
    refine ⟨?_, by rw [HR.out]; rfl⟩
    exact hC2.out.trans (chg_cell _ _ _ _)
  | ok n =>
    rw [ha] at hp HR
    have hp : e = .returned (.tuple #[.string (tx n), .int .i64 0]) := hp
    subst hp
    clear ha
    go_wp2_with fail
    go_ret
    refine ⟨?_, by rw [HR.out]; exact ⟨rfl, H2.out.put 13 _ rfl⟩⟩
    exact hC2.out.trans (chg_cell _ _ _ _)
set_option maxRecDepth 3000 in
theorem named_119 (h : CmAt w g lv sv x) (s : List UInt8) (hl : s.length ≤ 1000) (hs : SaneB g w) :
    Calls Tryd.prog 18 #[.pointer (some ⟨g, 0, none⟩), .int .u8 119, .string (tx s)] w (CmPost w g lv sv (namedL x 119 s)) := by
  have c2 : w.cell? ⟨g, 2, none⟩ = some (.int .u8 x.name) := h.cell 2
  have hfr := h.free
  have ig := h.inh
  have H1 := Lib.hid (h.put 2 (.int .u8 119) (y := { x with name := 119 }) rfl)
  have hC1 := Lib.hid (chg_cell w g 2 (.int .u8 119))
  have HS1 := Lib.hid (hs.chg (chg_cell w g 2 (.int .u8 119)) fun b e => Nat.le_of_eq e.symm)
  clear h hs
  go_enter Tryd.func18, Tryd.ntmps18
  go_wp2_with fail
  (with_reducible refine (asks_any s hl _).mono ?_)
  rintro e w2 ⟨hp, m, rfl⟩
  have H2 := Lib.hid (H1.out.grows (Grows.of _ m))
  have hC2 := Lib.hid (hC1.out.trans (Chg.of_grows (Grows.of _ m)))
  have d13 : (more (w.setCell ⟨g, 2, none⟩ (.int .u8 119)) m).cell? ⟨g, 13, none⟩ = some (.string (tx x.name2)) := H2.out.cell 13
  have hfr2 := H2.out.free
  clear c2 hfr ig
  have hR : namedL x 119 s = match asksL s with
    | .error e => .error e
    | .ok n => .ok { x with name := 119, name2 := n } := rfl
  have HR := Lib.hid hR
  clear hR
  cases ha : asksL s with
  | error n =>
    rw [ha] at hp HR
    have hp : e = .returned (.tuple #[.string (tx []), .int .i64 n]) := hp
    subst hp
    clear ha
    go_wp2_with fail
    go_ret
    refine ⟨?_, by rw [HR.out]; rfl⟩
    exact hC2.out.trans (chg_cell _ _ _ _)
  | ok n =>
    rw [ha] at hp HR
    have hp : e = .returned (.tuple #[.string (tx n), .int .i64 0]) := hp
    subst hp
    clear ha
    go_wp2_with fail
    go_ret
    refine ⟨?_, by rw [HR.out]; exact ⟨rfl, H2.out.put 13 _ rfl⟩⟩
    exact hC2.out.trans (chg_cell _ _ _ _)
set_option maxRecDepth 3000 in
theorem named_87 (h : CmAt w g lv sv x) (s : List UInt8) (hl : s.length ≤ 1000) (hs : SaneB g w) :
    Calls Tryd.prog 18 #[.pointer (some ⟨g, 0, none⟩), .int .u8 87, .string (tx s)] w (CmPost w g lv sv (namedL x 87 s)) := by
  have c2 : w.cell? ⟨g, 2, none⟩ = some (.int .u8 x.name) := h.cell 2
  have hfr := h.free
  have ig := h.inh
  have H1 := Lib.hid (h.put 2 (.int .u8 87) (y := { x with name := 87 }) rfl)
  have hC1 := Lib.hid (chg_cell w g 2 (.int .u8 87))
  have HS1 := Lib.hid (hs.chg (chg_cell w g 2 (.int .u8 87)) fun b e => Nat.le_of_eq e.symm)
  clear h hs
  go_enter Tryd.func18, Tryd.ntmps18
  go_wp2_with fail
  (with_reducible refine (asks_any s hl _).mono ?_)
  rintro e w2 ⟨hp, m, rfl⟩
  have H2 := Lib.hid (H1.out.grows (Grows.of _ m))
  have hC2 := Lib.hid (hC1.out.trans (Chg.of_grows (Grows.of _ m)))
  have d13 : (more (w.setCell ⟨g, 2, none⟩ (.int .u8 87)) m).cell? ⟨g, 13, none⟩ = some (.string (tx x.name2)) := H2.out.cell 13
  have hfr2 := H2.out.free
  clear c2 hfr ig
  have hR : namedL x 87 s = match asksL s with
    | .error e => .error e
    | .ok n => .ok { x with name := 87, name2 := n } := rfl
  have HR := Lib.hid hR
  clear hR
  cases ha : asksL s with
  | error n =>
    rw [ha] at hp HR
    have hp : e = .returned (.tuple #[.string (tx []), .int .i64 n]) := hp
    subst hp
    clear ha
    go_wp2_with fail
    go_ret
    refine ⟨?_, by rw [HR.out]; rfl⟩
    exact hC2.out.trans (chg_cell _ _ _ _)
  | ok n =>
    rw [ha] at hp HR
    have hp : e = .returned (.tuple #[.string (tx n), .int .i64 0]) := hp
    subst hp
    clear ha
    go_wp2_with fail
    go_ret
    refine ⟨?_, by rw [HR.out]; exact ⟨rfl, H2.out.put 13 _ rfl⟩⟩
    exact hC2.out.trans (chg_cell _ _ _ _)
set_option maxRecDepth 3000 in
theorem named_else (h : CmAt w g lv sv x) (s : List UInt8) (n : Nat) (hn : n ∉ [97, 99, 105, 100, 106, 108, 110, 112, 117, 61, 62, 60, 107, 109, 116, 115, 103, 118, 122, 104, 113, 81, 101, 69, 102, 114, 119, 87]) :
    Calls Tryd.prog 18 #[.pointer (some ⟨g, 0, none⟩), .int .u8 n, .string (tx s)] w (CmPost w g lv sv (namedL x n s)) := by
  have c2 : w.cell? ⟨g, 2, none⟩ = some (.int .u8 x.name) := h.cell 2
  have hfr := h.free
  have hC1 := Lib.hid (chg_cell w g 2 (.int .u8 n))
  simp only [List.mem_cons, List.not_mem_nil, or_false, not_or] at hn
  obtain ⟨k97, k99, k105, k100, k106, k108, k110, k112, k117, k61, k62, k60, k107, k109, k116, k115, k103, k118, k122, k104, k113, k81, k101, k69, k102, k114, k119, k87⟩ := hn
  have e97 : ((n : Int) == 97) = false := by rw [beq_eq_false_iff_ne]; omega
  have e99 : ((n : Int) == 99) = false := by rw [beq_eq_false_iff_ne]; omega
  have e105 : ((n : Int) == 105) = false := by rw [beq_eq_false_iff_ne]; omega
  have e100 : ((n : Int) == 100) = false := by rw [beq_eq_false_iff_ne]; omega
  have e106 : ((n : Int) == 106) = false := by rw [beq_eq_false_iff_ne]; omega
  have e108 : ((n : Int) == 108) = false := by rw [beq_eq_false_iff_ne]; omega
  have e110 : ((n : Int) == 110) = false := by rw [beq_eq_false_iff_ne]; omega
  have e112 : ((n : Int) == 112) = false := by rw [beq_eq_false_iff_ne]; omega
  have e117 : ((n : Int) == 117) = false := by rw [beq_eq_false_iff_ne]; omega
  have e61 : ((n : Int) == 61) = false := by rw [beq_eq_false_iff_ne]; omega
  have e62 : ((n : Int) == 62) = false := by rw [beq_eq_false_iff_ne]; omega
  have e60 : ((n : Int) == 60) = false := by rw [beq_eq_false_iff_ne]; omega
  have e107 : ((n : Int) == 107) = false := by rw [beq_eq_false_iff_ne]; omega
  have e109 : ((n : Int) == 109) = false := by rw [beq_eq_false_iff_ne]; omega
  have e116 : ((n : Int) == 116) = false := by rw [beq_eq_false_iff_ne]; omega
  have e115 : ((n : Int) == 115) = false := by rw [beq_eq_false_iff_ne]; omega
  have e103 : ((n : Int) == 103) = false := by rw [beq_eq_false_iff_ne]; omega
  have e118 : ((n : Int) == 118) = false := by rw [beq_eq_false_iff_ne]; omega
  have e122 : ((n : Int) == 122) = false := by rw [beq_eq_false_iff_ne]; omega
  have e104 : ((n : Int) == 104) = false := by rw [beq_eq_false_iff_ne]; omega
  have e113 : ((n : Int) == 113) = false := by rw [beq_eq_false_iff_ne]; omega
  have e81 : ((n : Int) == 81) = false := by rw [beq_eq_false_iff_ne]; omega
  have e101 : ((n : Int) == 101) = false := by rw [beq_eq_false_iff_ne]; omega
  have e69 : ((n : Int) == 69) = false := by rw [beq_eq_false_iff_ne]; omega
  have e102 : ((n : Int) == 102) = false := by rw [beq_eq_false_iff_ne]; omega
  have e114 : ((n : Int) == 114) = false := by rw [beq_eq_false_iff_ne]; omega
  have e119 : ((n : Int) == 119) = false := by rw [beq_eq_false_iff_ne]; omega
  have e87 : ((n : Int) == 87) = false := by rw [beq_eq_false_iff_ne]; omega
  have hR : namedL x n s = .error 210 := by
    unfold namedL
    simp only []
    rw [if_neg (by simp only [List.mem_cons, List.not_mem_nil, or_false]; omega), if_neg k107, if_neg (by omega), if_neg k115, if_neg (by omega), if_neg k122, if_neg (by omega), if_neg (by simp only [List.mem_cons, List.not_mem_nil, or_false]; omega)]
  have HR := Lib.hid hR
  clear h hR k97 k99 k105 k100 k106 k108 k110 k112 k117 k61 k62 k60 k107 k109 k116 k115 k103 k118 k122 k104 k113 k81 k101 k69 k102 k114 k119 k87
  go_enter Tryd.func18, Tryd.ntmps18
  go_wp2_with fail
  go_ret
  refine ⟨hC1.out, ?_⟩
  rw [HR.out]
  rfl
set_option maxRecDepth 3000 in
theorem named_cmd (h : CmAt w g lv sv x) (s : List UInt8) (n : Nat) (hl : s.length ≤ 1000) (hs : SaneB g w) :
    Calls Tryd.prog 18 #[.pointer (some ⟨g, 0, none⟩), .int .u8 n, .string (tx s)] w (CmPost w g lv sv (namedL x n s)) := by
  by_cases hn : n ∈ [97, 99, 105, 100, 106, 108, 110, 112, 117, 61, 62, 60, 107, 109, 116, 115, 103, 118, 122, 104, 113, 81, 101, 69, 102, 114, 119, 87]
  · simp only [List.mem_cons, List.not_mem_nil, or_false] at hn
    rcases hn with rfl | rfl | rfl | rfl | rfl | rfl | rfl | rfl | rfl | rfl | rfl | rfl | rfl | rfl | rfl | rfl | rfl | rfl | rfl | rfl | rfl | rfl | rfl | rfl | rfl | rfl | rfl | rfl
    · exact named_97 h s hl hs
    · exact named_99 h s hl hs
    · exact named_105 h s hl hs
    · exact named_100 h s hl hs
    · exact named_106 h s hl hs
    · exact named_108 h s hl hs
    · exact named_110 h s hl hs
    · exact named_112 h s hl hs
    · exact named_117 h s hl hs
    · exact named_61 h s hl hs
    · exact named_62 h s hl hs
    · exact named_60 h s hl hs
    · exact named_107 h s hl hs
    · exact named_109 h s hl hs
    · exact named_116 h s hl hs
    · exact named_115 h s hl hs
    · exact named_103 h s hl hs
    · exact named_118 h s hl hs
    · exact named_122 h s hl hs
    · exact named_104 h s hl hs
    · exact named_113 h s hl hs
    · exact named_81 h s hl hs
    · exact named_101 h s hl hs
    · exact named_69 h s hl hs
    · exact named_102 h s hl hs
    · exact named_114 h s hl hs
    · exact named_119 h s hl hs
    · exact named_87 h s hl hs
  · exact named_else h s n hn
end
end Go.Proofs.YtpdlmknbpggohaaDoor
