/-
  The law BreParse, walked.
-/
import Derived.Test.YtmobcljinfoacaaDoorPk28
import Derived.Test.YtmobcljinfoacaaDoorPk42
import Derived.Test.YtmobcljinfoacaaDoorPk43
import Derived.Test.YtmobcljinfoacaaDoorPk29
namespace Go.Proofs.YtmobcljinfoacaaDoor
open Go.RowKit

set_option maxRecDepth 3000 in
theorem ReAt.over {ok q : Nat → Prop} {w w' : World} {g : Nat} {f : Fr} {t : PS} (h : ReAt ok w g f t) (hc : Chg q w w') (hg : ¬ q g) (hp : ∀ b, b < w.heap.size → ¬ q b) : ReAt ok w' g f t := by
  obtain ⟨A, cap, h1, h2⟩ := h.tree
  have hx : ∀ {i v}, w.cell? ⟨g, i, none⟩ = some v → w'.cell? ⟨g, i, none⟩ = some v := fun {i v} h => by
    rw [hc.cell (World.block_lt_of_cell? w _ h) hg]
    exact h
  exact ⟨⟨A, cap, hx h1, h2.chg hc fun b hb _ => hp b hb⟩, hx h.groups, hx h.parts, hx h.refs⟩
set_option maxRecDepth 3000 in
theorem cell_grows {w w' : World} {b i : Nat} {v : Value} (h : w.cell? ⟨b, i, none⟩ = some v) (hg : Grows w w') : w'.cell? ⟨b, i, none⟩ = some v := by
  obtain ⟨m, rfl⟩ := hg
  rw [cell_more _ _ _ (World.block_lt_of_cell? w _ h)]
  exact h
set_option maxRecDepth 3000 in
theorem Sane.chg {w w' : World} {q : Nat → Prop} (h : Sane w) (hc : Chg q w w') (hq : ∀ b, b < w.heap.size → ¬ q b) : Sane w' := by
  obtain ⟨m, hm⟩ := h
  have hb := World.block_lt_of_cell? w _ hm
  exact ⟨m, (hc.cell hb (hq _ hb)).trans hm⟩
/-- The document's pattern in memory. -/
structure DocAt (T : Nat) (w : World) (g : Nat) (B : Option Addr) (cb : Nat) (f : Fr) (t : PS) : Prop where
  c0 : w.cell? ⟨g, 0, none⟩ = some (.slice B f.len cb)
  c1 : w.cell? ⟨g, 1, none⟩ = some (.int .i64 t.groups)
  c2 : w.cell? ⟨g, 2, none⟩ = some (.int .i64 t.parts)
  c3 : w.cell? ⟨g, 3, none⟩ = some (.bool t.refs)
  row : FrAt (fun b => b < T) w B cb f
  low : g < T
set_option maxRecDepth 3000 in
theorem DocAt.grows {T g cb : Nat} {w w' : World} {B : Option Addr} {f : Fr} {t : PS} (h : DocAt T w g B cb f t) (hg : Grows w w') : DocAt T w' g B cb f t :=
  ⟨cell_grows h.c0 hg, cell_grows h.c1 hg, cell_grows h.c2 hg, cell_grows h.c3 hg, h.row.grows hg, h.low⟩
set_option maxRecDepth 3000 in
theorem DocAt.over {T g cb : Nat} {w w' : World} {B : Option Addr} {f : Fr} {t : PS} (h : DocAt T w g B cb f t) (hc : Chg (fun b => T ≤ b) w w') : DocAt T w' g B cb f t := by
  have hx : ∀ {i v}, w.cell? ⟨g, i, none⟩ = some v → w'.cell? ⟨g, i, none⟩ = some v := fun {i v} k => by
    rw [hc.cell (World.block_lt_of_cell? w _ k) (Nat.not_le.2 h.low)]
    exact k
  exact ⟨hx h.c0, hx h.c1, hx h.c2, hx h.c3, h.row.chg hc (fun b _ hb => Nat.not_le.2 hb), h.low⟩
set_option maxRecDepth 100000 in
set_option maxHeartbeats 4000000 in
theorem bre_parse_law (l : List UInt8) (w : World) (hs : Sane w) : Calls Tryd.prog 3 #[.string (tx l)] w fun e w' => e = .returned (.bool true) ∧ Grows w w' := by
  by_cases hl : 1000 < l.length
  · have c1 : (1000 : Int) < (l.length : Int) := by omega
    go_enter Tryd.func3, Tryd.ntmps3
    go_wp2_with fail
    go_ret
    exact ⟨rfl, Grows.refl _⟩
  have ll : l.length ≤ 1000000 := by omega
  have hl1 : l.length ≤ 1000 := by omega
  cases hv : patV l with
  | none =>
    have hd := doc_none hv
    have HV := Lib.hid hv
    have HD := Lib.hid hd
    clear hv hd
    go_enter Tryd.func3, Tryd.ntmps3
    go_wp2_with fail
    (with_reducible refine (bre_no ll HV.out w hs _ rfl).mono ?_)
    rintro e w1 ⟨rfl, k1⟩
    have hdoc := refParse_pat l w1 hl1
    rw [HD.out] at hdoc
    go_wp2_with fail
    (with_reducible refine hdoc.mono ?_)
    rintro e w2 ⟨rfl, k2⟩
    clear hdoc
    go_wp2_with fail
    (with_reducible refine (tree_nil w2).mono ?_)
    rintro e w5 ⟨rfl, hw⟩
    subst hw
    go_wp2_with fail
    (with_reducible refine (groups_nil w2).mono ?_)
    rintro e w5 ⟨rfl, hw⟩
    subst hw
    go_wp2_with fail
    (with_reducible refine (refs_nil w2).mono ?_)
    rintro e w5 ⟨rfl, hw⟩
    subst hw
    go_wp2_with fail
    (with_reducible refine (parts_nil w2).mono ?_)
    rintro e w5 ⟨rfl, hw⟩
    subst hw
    go_wp2_with fail
    (with_reducible refine (does_any w2 ((hs.grows k1).grows k2)).mono ?_)
    rintro e w6 ⟨rfl, k3⟩
    go_wp2_with fail
    go_ret
    exact ⟨rfl, (k1.trans k2).trans k3⟩
  | some y =>
    obtain ⟨r, hd, e1, e2, e3⟩ := doc_some hv
    obtain ⟨hsz, hp2⟩ := patV_size hv
    obtain ⟨f, t⟩ := y
    simp only [] at e1 e2 e3 hsz hp2 hd
    have hfs : f.size ≤ 1000 := by omega
    have hfl : f.len ≤ 1000 := Nat.le_trans f.len_size hfs
    have HV := Lib.hid hv
    have HD := Lib.hid hd
    have E1 := Lib.hid e1
    have E2 := Lib.hid e2
    have E3 := Lib.hid e3
    clear hv hd e1 e2 e3 hsz hp2
    go_enter Tryd.func3, Tryd.ntmps3
    go_wp2_with fail
    (with_reducible refine (bre_yes ll HV.out w hs _ rfl).mono ?_)
    rintro e w1 ⟨g, rfl, R, -, k1⟩
    have hdoc := refParse_pat l w1 hl1
    rw [HD.out] at hdoc
    go_wp2_with fail
    (with_reducible refine hdoc.mono ?_)
    rintro e w2 ⟨gw, B, cb, rfl, hgw, hbw, hFw, k2⟩
    clear hdoc
    have hgl : g < w2.heap.size := World.block_lt_of_cell? _ _ (R.grows k2).groups
    have D2 : DocAt w2.heap.size w2 gw B cb f t := by
      have hi := Blk.inHeap hbw (by simp)
      refine ⟨(Blk.cell hbw (by simp) 0).trans rfl, ?_, ?_, ?_, hFw.mono fun b hb _ => hb, hi⟩
      · rw [← E2.out]; exact (Blk.cell hbw (by simp) 1).trans rfl
      · rw [← E1.out]; exact (Blk.cell hbw (by simp) 2).trans rfl
      · rw [← E3.out]; exact (Blk.cell hbw (by simp) 3).trans rfl
    have R2 := R.grows k2
    obtain ⟨T, hT⟩ : ∃ T, T = w2.heap.size := ⟨_, rfl⟩
    have HT := Lib.hid hT
    rw [← hT] at D2 hgl
    have hTw : w.heap.size ≤ T := by rw [hT]; exact (k1.trans k2).below.size
    have hG2 := Lib.hid (k1.trans k2)
    clear hbw hFw hgw R k1 k2 hT HV HD E1 E2 E3
    go_wp2_with fail
    (with_reducible refine (tree3_any R2 (by omega)).mono ?_)
    rintro e w3 ⟨A, cap, rfl, hA, k3⟩
    rw [← HT.out] at hA
    have D3 := D2.grows k3
    have R3 := R2.grows k3
    have HG3 := Lib.hid (hG2.out.trans k3)
    have HT3 : T ≤ w3.heap.size := by rw [HT.out]; exact k3.below.size
    have HR2 := Lib.hid R2
    have K3 := Lib.hid k3
    have HD2 := Lib.hid D2
    have HA := Lib.hid hA
    obtain ⟨c0, c1, c2, c3, -, -⟩ := D3
    have ig := World.block_lt_of_cell? _ _ c0
    have ig : InHeap gw w3 := ig
    have qparts : ∀ (m : More), Calls Tryd.prog 10 #[.pointer (some ⟨g, 1, none⟩)] (more w3 m) fun e w' => e = .returned (.int .i64 t.parts) ∧ Grows (more w3 m) w' := fun m => (parts_any (R3.grows ⟨m, rfl⟩)).mono fun e w' h => ⟨h.1, h.2 ▸ Grows.refl _⟩
    have qgroups : ∀ (m : More), Calls Tryd.prog 8 #[.pointer (some ⟨g, 1, none⟩)] (more w3 m) fun e w' => e = .returned (.int .i64 t.groups) ∧ Grows (more w3 m) w' := fun m => (groups_any (R3.grows ⟨m, rfl⟩)).mono fun e w' h => ⟨h.1, h.2 ▸ Grows.refl _⟩
    have qrefs : ∀ (m : More), Calls Tryd.prog 9 #[.pointer (some ⟨g, 1, none⟩)] (more w3 m) fun e w' => e = .returned (.bool t.refs) ∧ Grows (more w3 m) w' := fun m => (refs_any (R3.grows ⟨m, rfl⟩)).mono fun e w' h => ⟨h.1, h.2 ▸ Grows.refl _⟩
    have qsame : ∀ (m : More), Calls Tryd.prog 12 #[.slice A f.len cap, .slice B f.len cb] (more w3 m) fun e w' => e = .returned (.bool true) ∧ Grows (more w3 m) w' := fun m => same_any f.size f _ _ A B cap cb _ (Nat.le_refl _) hfs (HA.out.at_.grows ⟨m, rfl⟩) ((HD2.out.row.grows K3.out).grows ⟨m, rfl⟩)
    clear hA k3 R2 D2 R3
    go_upto_region 10 with fail
    refine region_grows (by kernel_rfl) (by kernel_rfl) ?_
    repeat (go_big_quiet_step (first | (go_at_call 10; exact calls_grows (qparts _)) | (go_at_call 8; exact calls_grows (qgroups _)) | (go_at_call 9; exact calls_grows (qrefs _)) | (go_at_call 12; exact calls_grows (qsame _))))
    refine wpQuiet_nil ?_
    intro _ hw'
    obtain ⟨m3, rfl⟩ := hw'
    clear qparts qgroups qrefs qsame c0 c1 c2 c3 ig
    have hk4 : Grows w3 (more w3 m3) := ⟨m3, rfl⟩
    have HD4 := Lib.hid ((HD2.out.grows K3.out).grows hk4)
    have HR4 := Lib.hid ((HR2.out.grows K3.out).grows hk4)
    have HG4 := Lib.hid (HG3.out.trans hk4)
    have HA4 : Hid (FrTop T (more w3 m3) A cap f) := Lib.hid (HA.out.grows hk4)
    have HG24 := Lib.hid (K3.out.trans hk4)
    generalize more w3 m3 = w4 at *
    clear K3
    clear hk4 HD2 HG3 HA HT3
    obtain ⟨gt, ot, hAt⟩ : ∃ gt ot, 0 < f.len → A = some ⟨gt, ot, none⟩ ∧ T ≤ gt ∧ 0 < (blk w4 gt).size := by
      rcases Nat.eq_zero_or_pos f.len with h0 | h0
      · exact ⟨0, 0, fun h => by omega⟩
      · obtain ⟨b, o, e, hb⟩ := HA4.out.at_.some h0
        obtain ⟨hlv, -⟩ := HA4.out.at_.kind (k := 0) h0 e
        exact ⟨b, o, fun _ => ⟨e, hlv.1, hlv.2⟩⟩
    have HAT := Lib.hid hAt
    clear hAt
    go_wp2_with fail
    go_loopg [8, 9] f.len (fun q v8 _ wr => ∃ (i : Nat) (a c : Fr), q + i = f.len ∧ v8 = .int .i64 i ∧ f = a.app c ∧ a.len = i ∧ Marks T gt ot w4 wr)
    case atStart => exact ⟨0, .nil, f, by omega, rfl, rfl, rfl, Marks.start _ _ _ _⟩
    case round =>
      obtain ⟨i, a, c, hq, rfl, hf, ha, hM⟩ := hrel
      obtain ⟨wx, hwx⟩ : ∃ z, z = wr := ⟨_, rfl⟩
      subst hwx
      obtain ⟨Q, hQ⟩ : ∃ z, z = gk := ⟨_, rfl⟩
      subst hQ
      have HQ := Lib.hid hq
      have HF := Lib.hid hf
      have HAL := Lib.hid ha
      have HM := Lib.hid hM
      cases c with
      | nil =>
        have hi : i = f.len := by rw [hf, Fr.app_nil]; exact ha.symm
        subst hi
        clear hq hf ha hM
        have hC2 : Chg (fun b => T ≤ b) w2 wx := (Chg.of_grows HG24.out).trans HM.out.chg
        have HRx := Lib.hid (HR2.out.over hC2 (Nat.not_le.2 hgl) (fun b hb => Nat.not_le.2 (by have := HT.out; omega)))
        have HSx := Lib.hid ((hs.grows hG2.out).chg hC2 (fun b hb => Nat.not_le.2 (by have := HT.out; omega)))
        have HGx := Lib.hid (Chg.grows (n := 0) hG2.out hC2 (fun b hb => Nat.le_trans hTw hb))
        have HDx := Lib.hid (HD4.out.over HM.out.chg)
        have c0 := HDx.out.c0
        have ig : InHeap gw wx := World.block_lt_of_cell? _ _ c0
        have hfm : f.size ≤ 1000000 := by omega
        clear hC2
        go_upto_region 20 with fail
        go_region_law (first
          | (go_simp; (with_reducible refine Calls.mono (tree_any (HRx.out.grows (by repeat' first | exact Grows.refl _ | refine Grows.drewN ?_ _ | refine Grows.drew ?_)) hfm) ?_); rintro e w5 ⟨A5, c5, rfl, hF5, hG5⟩; have HF5 := Lib.hid hF5; have HW5 : Hid (Grows wx w5) := Lib.hid (Grows.trans (by repeat' first | exact Grows.refl _ | refine Grows.drewN ?_ _ | refine Grows.drew ?_) hG5); have cw5 := cell_grows HDx.out.c0 HW5.out; have ig5 : InHeap gw w5 := World.block_lt_of_cell? _ _ cw5; clear hF5 hG5; dsimp only)
          | (go_simp; (with_reducible refine Calls.mono (same_any f.size f _ _ A5 B c5 cb _ (Nat.le_refl _) hfs (HF5.out.grows (by repeat' first | exact Grows.refl _ | refine Grows.drewN ?_ _ | refine Grows.drew ?_)) ((HDx.out.row.grows HW5.out).grows (by repeat' first | exact Grows.refl _ | refine Grows.drewN ?_ _ | refine Grows.drew ?_))) ?_); rintro e w6 ⟨rfl, hG6⟩; have HW6 : Hid (Grows w5 w6) := Lib.hid (Grows.trans (by repeat' first | exact Grows.refl _ | refine Grows.drewN ?_ _ | refine Grows.drew ?_) hG6); clear hG6; dsimp only)
          | (go_simp; (with_reducible refine Calls.mono (does_any _ (((HSx.out.grows HW5.out).grows HW6.out).grows (by repeat' first | exact Grows.refl _ | refine Grows.drewN ?_ _ | refine Grows.drew ?_))) ?_); rintro e w7 ⟨rfl, hG7⟩; have HW7 : Hid (Grows w6 w7) := Lib.hid (Grows.trans (by repeat' first | exact Grows.refl _ | refine Grows.drewN ?_ _ | refine Grows.drew ?_) hG7); clear hG7; dsimp only))
        all_goals
          go_wp2_with fail
          go_ret
          exact ⟨rfl, (((HGx.out.trans HW5.out).trans HW6.out).trans HW7.out).trans (by repeat' first | exact Grows.refl _ | refine Grows.drewN ?_ _ | refine Grows.drew ?_)⟩
      | cons x kids rest =>
        have hil : i < f.len := by rw [hf, Fr.len_app, ha]; simp [Fr.len]
        have hkl : kids.len ≤ 1000 := by
          have h1 := congrArg Fr.size hf
          have h2 := kids.len_size
          rw [Fr.size_app, Fr.size] at h1
          omega
        obtain ⟨rfl, hTg, hlg⟩ := HAT.out (by omega)
        obtain ⟨K, ck, hK, hn⟩ := HA4.out.node hf rfl
        rw [ha] at hn
        have h261 : w4.cell? ⟨gt, ot + (i * 262 + 261), none⟩ = some (.slice K kids.len ck) := hn 261 _ (ndA_261 _ _ _ _ _ _ _)
        have h0 : w4.cell? ⟨gt, ot + i * 262, none⟩ = some (.int .i64 x.kind) := hn 0 _ (ndA_0 _ _ _ _ _ _ _)
        have L261 : ∀ W, Marks T gt ot w4 W → W.cell? ⟨gt, ot + i * 262 + 261, none⟩ = some (.slice K kids.len ck) := fun W k => by rw [Nat.add_assoc, k.top]; exact h261
        have LI : ∀ W, Marks T gt ot w4 W → InHeap gt W := fun W k => (k.live h0 hlg).choose_spec.2.2
        obtain ⟨kb, ko, hKt⟩ : ∃ kb ko, 0 < kids.len → K = some ⟨kb, ko, none⟩ := by
          rcases Nat.eq_zero_or_pos kids.len with h0 | h0
          · exact ⟨0, 0, fun h => by omega⟩
          · obtain ⟨b, o, e, hb⟩ := hK.some h0
            exact ⟨b, o, fun _ => e⟩
        have HKT := Lib.hid hKt
        have HK := Lib.hid hK
        have HN := Lib.hid hn
        have H0 := Lib.hid h0
        have HL := Lib.hid L261
        have HI := Lib.hid LI
        have c261 := L261 wx hM
        have ig := LI wx hM
        have i1 : (i : Int) < (f.len : Int) := by omega
        clear hq hf ha hM hK hn h261 h0 L261 LI hKt
        go_wp2_with fail
        clear c261 ig
        go_loopg [9] kids.len (fun q v9 wk => ∃ k : Nat, q + k = kids.len ∧ v9 = .int .i64 k ∧ Marks T gt ot w4 wk)
        case atStart => exact ⟨0, by omega, rfl, HM.out⟩
        case round =>
          obtain ⟨k, hq, rfl, hM⟩ := hrel
          obtain ⟨wk, hwk⟩ : ∃ z, z = wr := ⟨_, rfl⟩
          subst hwk
          have HQ2 := Lib.hid hq
          have HM2 := Lib.hid hM
          have c261 := HL.out wk hM
          have ig := HI.out wk hM
          clear hM
          rcases Nat.eq_zero_or_pos gk with hz | hz
          · have hk : k = kids.len := by omega
            subst hk
            clear hq hz
            obtain ⟨v0, cv, fv, -⟩ := HM2.out.live H0.out hlg
            go_wp2_with fail
            go_roundg (Q - 1)
            case measure => have := HQ.out; omega
            case rel => exact ⟨i + 1, a.app (.cons x kids .nil), rest, by have := HQ.out; omega, rfl, by rw [Fr.app_assoc]; exact HF.out, by rw [Fr.len_app, HAL.out]; rfl, HM2.out.put hlg hTg hlg (fun _ => ⟨i, rfl⟩) _⟩
          · have hk : k < kids.len := by omega
            have k1 : (k : Int) < (kids.len : Int) := by omega
            obtain rfl := HKT.out (by omega)
            obtain ⟨⟨⟨hT2, hl2⟩, hne⟩, u, hu⟩ := HK.out.kind hk rfl
            obtain ⟨v0, cv, fv, iv⟩ := HM2.out.live hu hl2
            have HU := Lib.hid hu
            clear hq hu
            go_wp2_with fail
            go_roundg (gk - 1)
            case measure => omega
            case rel => exact ⟨k + 1, by have := HQ2.out; omega, rfl, HM2.out.put hlg hT2 hl2 (fun e => absurd e.symm hne) _⟩
end Go.Proofs.YtmobcljinfoacaaDoor
