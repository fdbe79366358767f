/-
  Pieces: the law PiecesStay.
-/
import Derived.Test.YtblcggmbaofflaaPiecesKeep
import Derived.Test.YtblcggmbaofflaaOpenBytes
namespace Go.Proofs.Ytblcggmbaofflaa
open Go.RowKit

theorem infoTab : (Try.prog.info? 27).map (fun i => (i.zero, i.size, i.bytes)) = some (some (.pointer none), 1, 8) := by kernel_rfl
theorem infoLs : (Try.prog.info? 22).map (fun i => (i.zero, i.size, i.bytes)) = some (some (.slice none 0 0), 1, 24) := by kernel_rfl
section
variable {base gm cm gh ch : Nat} {w w' w1 : World} {Ts : List Tbl} {ps : List Part} {o : Obj}
theorem Kept.made_cell (h : Kept base w gm cm gh ch Ts ps) (j : Nat) (hj : j < Ts.length) : w.cell? ⟨gm, j, none⟩ = some (.pointer (some ⟨Ts[j].g, 0, none⟩)) := by
  rw [h.made.cellAt j (by omega)]
  simp [hj, Tbl.val]
theorem Kept.had_cell (h : Kept base w gm cm gh ch Ts ps) (j : Nat) (hj : j < ps.length) : w.cell? ⟨gh, j, none⟩ = some (.slice ps[j].A ps[j].d.length ps[j].cap) := by
  rw [h.had.cellAt j (by omega)]
  simp [hj, pv, Part.val]
theorem Kept.push_made_n {v : Value} {U : Tbl} (n : Nat) (h : Kept base w gm cm gh ch Ts ps) (hn : n = Ts.length) (hU : U.ok w) (hm : ¬U.uses gm) (hh : ¬U.uses gh)
    (hr : w1.ownsRow base 27 1 v (n + 1) (Ts.map Tbl.val ++ [U.val])) (hg : (w.alloc o).grownBy w1 (some gm)) (hat : v.ownBlock = some gm ∨ v.ownBlock = some (w.alloc o).heap.size) :
    ∃ gm' cm', v = .slice (some ⟨gm', 0, none⟩) (n + 1) cm' ∧ Kept base w1 gm' cm' gh ch (Ts ++ [U]) ps := by
  subst hn; exact h.push_made hU hm hh hr hg hat
theorem Kept.push_had_n {v : Value} {q : Part} (n : Nat) (h : Kept base w gm cm gh ch Ts ps) (hn : n = ps.length) (hq : q.good w) (hf : ∀ a, q.A = some a → 0 < q.d.length → a.block ≠ gm ∧ a.block ≠ gh)
    (hr : w1.ownsRow base 22 1 v (n + 1) (pv ps ++ [q.val])) (hg : (w.alloc o).grownBy w1 (some gh)) (hat : v.ownBlock = some gh ∨ v.ownBlock = some (w.alloc o).heap.size) :
    ∃ gh' ch', v = .slice (some ⟨gh', 0, none⟩) (n + 1) ch' ∧ Kept base w1 gm cm gh' ch' Ts (ps ++ [q]) := by
  subst hn; exact h.push_had hq hf hr hg hat
theorem Kept.made_n {n : Nat} (h : Kept base w gm cm gh ch Ts ps) (hn : n = Ts.length) : w.ownsRow base 27 1 (.slice (some ⟨gm, 0, none⟩) n cm) n (Ts.map Tbl.val) := by subst hn; exact h.made
theorem Kept.had_n {n : Nat} (h : Kept base w gm cm gh ch Ts ps) (hn : n = ps.length) : w.ownsRow base 22 1 (.slice (some ⟨gh, 0, none⟩) n ch) n (pv ps) := by subst hn; exact h.had
theorem Kept.below_made (h : Kept base w gm cm gh ch Ts ps) {w0 : World} (hB : Below base w0 w) (hg : (w.alloc o).grownBy w1 (some gm)) : Below base w0 w1 :=
  own_below1 hB h.made (by have := own_block h.made; omega) hg
theorem Kept.below_had (h : Kept base w gm cm gh ch Ts ps) {w0 : World} (hB : Below base w0 w) (hg : (w.alloc o).grownBy w1 (some gh)) : Below base w0 w1 :=
  own_below1 hB h.had (by have := own_block h.had; omega) hg
end
/-- What the loop keeps. -/
structure Stay (w0 : World) (T0 : Tbl) (k : Nat) (w : World) (gm cm gh ch : Nat) (Ts : List Tbl) (ps : List Part) : Prop where
  kept : Kept w0.heap.size w gm cm gh ch Ts ps
  same : Ts.map Tbl.L = ps.map Part.d
  good : ∀ T ∈ Ts, lcheckV T.L = 0
  head : ∃ Us, Ts = T0 :: Us
  many : Ts.length ≤ 1 + 2 * k
  below : Below w0.heap.size w0 w
theorem Stay.len {w0 : World} {T0 : Tbl} {k : Nat} {w : World} {gm cm gh ch : Nat} {Ts : List Tbl} {ps : List Part} (h : Stay w0 T0 k w gm cm gh ch Ts ps) : ps.length = Ts.length := by
  have := congrArg List.length h.same
  simpa using this.symm
theorem Stay.pos {w0 : World} {T0 : Tbl} {k : Nat} {w : World} {gm cm gh ch : Nat} {Ts : List Tbl} {ps : List Part} (h : Stay w0 T0 k w gm cm gh ch Ts ps) : 0 < Ts.length := by
  obtain ⟨Us, rfl⟩ := h.head
  simp
theorem Stay.at_ {w0 : World} {T0 : Tbl} {k : Nat} {w : World} {gm cm gh ch : Nat} {Ts : List Tbl} {ps : List Part} (h : Stay w0 T0 k w gm cm gh ch Ts ps) (j : Nat) (hj : j < Ts.length) (hp : j < ps.length) : Ts[j].L = ps[j].d := by
  have := congrArg (fun l => l[j]?) h.same
  simpa [hj, hp] using this
theorem Stay.grows {w0 : World} {T0 : Tbl} {k : Nat} {w w' : World} {gm cm gh ch : Nat} {Ts : List Tbl} {ps : List Part} (h : Stay w0 T0 k w gm cm gh ch Ts ps) (hg : Grows w w') : Stay w0 T0 k w' gm cm gh ch Ts ps := by
  refine ⟨h.1.grows hg, h.2, h.3, h.4, h.5, ?_⟩
  exact h.6.trans (hg.below.mono (by have := own_block h.1.made; omega))
section
variable {w0 : World} {T0 : Tbl} {k : Nat} {w w' : World} {gm cm gh ch gm' cm' gh' ch' : Nat} {Ts : List Tbl} {ps : List Part} {U C : Tbl} {q : Part}
theorem Stay.one (h : Stay w0 T0 k w gm cm gh ch Ts ps) (hK : Kept w0.heap.size w' gm' cm' gh' ch' (Ts ++ [U]) (ps ++ [q])) (hUL : U.L = q.d) (hg : lcheckV U.L = 0) (hB : Below w0.heap.size w0 w') :
    Stay w0 T0 (k + 1) w' gm' cm' gh' ch' (Ts ++ [U]) (ps ++ [q]) := by
  obtain ⟨Us, hu⟩ := h.head
  have hm := h.many
  refine ⟨hK, by simp [h.same, hUL], fun T hT => ?_, ⟨Us ++ [U], by simp [hu]⟩, by simp; omega, hB⟩
  rcases List.mem_append.1 hT with hT | hT
  · exact h.good T hT
  · obtain rfl : T = U := by simpa using hT
    exact hg
theorem Stay.two (h : Stay w0 T0 k w gm cm gh ch Ts ps) (hK : Kept w0.heap.size w' gm' cm' gh' ch' (Ts ++ [U] ++ [C]) (ps ++ [q] ++ [q])) (hUL : U.L = q.d) (hCL : C.L = U.L) (hg : lcheckV U.L = 0) (hB : Below w0.heap.size w0 w') :
    Stay w0 T0 (k + 1) w' gm' cm' gh' ch' (Ts ++ [U] ++ [C]) (ps ++ [q] ++ [q]) := by
  obtain ⟨Us, hu⟩ := h.head
  have hm := h.many
  refine ⟨hK, by simp [h.same, hUL, hCL], fun T hT => ?_, ⟨Us ++ [U, C], by simp [hu]⟩, by simp; omega, hB⟩
  rcases List.mem_append.1 hT with hT | hT
  · rcases List.mem_append.1 hT with hT | hT
    · exact h.good T hT
    · obtain rfl : T = U := by simpa using hT
      exact hg
  · obtain rfl : T = C := by simpa using hT
    rw [hCL]; exact hg
theorem Stay.next (h : Stay w0 T0 k w gm cm gh ch Ts ps) : Stay w0 T0 (k + 1) w gm cm gh ch Ts ps := ⟨h.1, h.2, h.3, h.4, by have := h.5; omega, h.6⟩
end
theorem stay_start {w : World} {m0 m1 : More} {T0 : Tbl} {p : Part} {n : Nat} (hn : n = p.d.length) (hT : T0.ok (more w m0)) (hg : lcheckV T0.L = 0)
    (hp : p.good (more ((more w m0).alloc (.cells #[.pointer (some ⟨T0.g, 0, none⟩)] 27)) m1)) (hd : T0.L = p.d)
    (hb : ∀ a, p.A = some a → a.spot = none ∧ ((more w m0).alloc (.cells #[.pointer (some ⟨T0.g, 0, none⟩)] 27)).heap.size ≤ a.block) :
    Stay w T0 0 ((more ((more w m0).alloc (.cells #[.pointer (some ⟨T0.g, 0, none⟩)] 27)) m1).alloc (.cells #[.slice p.A n p.cap] 22))
      (more w m0).heap.size 1 (more ((more w m0).alloc (.cells #[.pointer (some ⟨T0.g, 0, none⟩)] 27)) m1).heap.size 1 [T0] [p] := by
  subst hn
  have g0 : Grows w (more w m0) := Grows.of w m0
  have s0 : w.heap.size ≤ (more w m0).heap.size := g0.below.size
  generalize hX : more w m0 = X at *
  have g1 : Grows X (X.alloc (.cells #[.pointer (some ⟨T0.g, 0, none⟩)] 27)) := (Grows.refl _).alloc _
  have sY : (X.alloc (.cells #[.pointer (some ⟨T0.g, 0, none⟩)] 27)).heap.size = X.heap.size + 1 := by simp
  have o1 := World.ownsRow_lit (base := w.heap.size) (e := 27) (size := 1) X #[.pointer (some ⟨T0.g, 0, none⟩)] 1 s0 (by decide) rfl
  generalize hY : X.alloc (.cells #[.pointer (some ⟨T0.g, 0, none⟩)] 27) = Y at *
  have g2 : Grows Y (more Y m1) := Grows.of Y m1
  have s2 : Y.heap.size ≤ (more Y m1).heap.size := g2.below.size
  have o2 := World.ownsRow_lit (base := w.heap.size) (e := 22) (size := 1) (more Y m1) #[.slice p.A p.d.length p.cap] 1 (by omega) (by decide) rfl
  generalize hZ : more Y m1 = Z at *
  have g3 : Grows Z (Z.alloc (.cells #[.slice p.A p.d.length p.cap] 22)) := (Grows.refl _).alloc _
  refine ⟨⟨own_grows1 (own_grows1 o1 g2) g3, o2, by omega, ?_, ?_⟩, by simp [hd], ?_, ⟨[], rfl⟩, by simp, (((g0.trans g1).trans g2).trans g3).below⟩
  · intro T hT'
    obtain rfl : T = T0 := by simpa using hT'
    exact ⟨hT.grows ((g1.trans g2).trans g3), fun hu => by have := hT.lt _ hu; omega, fun hu => by have := hT.lt _ hu; omega⟩
  · intro q hq
    obtain rfl : q = p := by simpa using hq
    exact ⟨hp.grows g3, fun a ha hn => ⟨by have := (hb a ha).2; omega, by have := hp.1.1.lt hn a ha; omega⟩⟩
  · intro T hT'
    obtain rfl : T = T0 := by simpa using hT'
    exact hg

set_option maxRecDepth 100000 in
set_option maxHeartbeats 4000000 in
theorem piecesStay_law (Ad : Option Addr) (cd : Nat) (d : List (List UInt8)) (A : Option Addr) (cap : Nat) (L : List Cut) (O : Option Addr) (co : Nat) (os : List Int) (w : World) (hd : Came w Ad cd d) (hL : CameCuts w A cap L) (hO : CameBytes w O co os) :
    Calls Try.prog 6 #[.slice Ad d.length cd, .slice A L.length cap, .slice O os.length co] w fun e w' => e = .returned (.bool true) ∧ Grows w w' := by
  have hdl := hd.len
  have hLl := hL.len
  have hOl := hO.len
  obtain ⟨i0, hi, hz0, hz1, hz2⟩ := info_parts infoTab
  obtain ⟨i1, hi', hy0, hy1, hy2⟩ := info_parts infoLs
  go_enter Try.func6, Try.ntmps6
  go_wp2_with fail
  (with_reducible refine (great_any Ad cd d 300 10000 _ hd.rd hdl hd.each (by decide) (by decide) (by decide) (by decide)).mono ?_)
  rintro e w1 ⟨ga, rfl, hga, rfl⟩
  cases ga with
  | true =>
    go_wp2_with fail
    go_ret
    exact ⟨rfl, Grows.refl _⟩
  | false =>
    obtain ⟨hga1, hga2⟩ := hga rfl
    clear hga
    go_wp2_with fail
    (with_reducible refine (much_any A cap L _ hL).mono ?_)
    rintro e w1 ⟨gm, rfl, hgm, rfl⟩
    cases gm with
    | true =>
      go_wp2_with fail
      go_ret
      exact ⟨rfl, Grows.refl _⟩
    | false =>
      obtain ⟨hm1, hm2, hm3⟩ := hgm rfl
      have HM := Lib.hid hm2
      clear hgm hm2
      by_cases h60 : 60 < os.length
      · have h60b : ((60 : Int) < (os.length : Int)) := by omega
        go_wp2_with fail
        go_ret
        exact ⟨rfl, Grows.refl _⟩
      by_cases hok : lcheckV d = 0
      · go_wp2_with fail
        (with_reducible refine (new_ptr Ad _ cd d _ rfl hd.rd (by omega) hd.nil hd.each hok).mono ?_)
        rintro e w1 ⟨T0, rfl, hT0, hTL0, ⟨m0, rfl⟩, hu0, -⟩
        go_wp2_with fail
        (with_reducible refine (all_ptr T0 _ (hT0.grows ((Grows.refl _).alloc _))).mono ?_)
        rintro e w1 ⟨v0, rfl, hown0, m1, rfl⟩
        obtain ⟨A0, c0, rfl, b1, b2, hA0, hn0, hb0⟩ := own_row hown0
        clear hown0
        have hst := stay_start (p := ⟨A0, c0, T0.L⟩) rfl hT0 (by rw [hTL0]; exact hok) ⟨⟨hA0, hn0⟩, b1, b2⟩ rfl hb0
        simp only [] at hst
        have q1 : (more w m0).heap.size = w.heap.size + m0.bs.size := by simp [go_sem]
        have q2 : (more ((more w m0).alloc (Obj.cells #[.pointer (some ⟨T0.g, 0, none⟩)] 27)) m1).heap.size = w.heap.size + m0.bs.size + 1 + m1.bs.size := by simp [go_sem]
        rw [q1, q2] at hst
        clear q1 q2
        have HST := Lib.hid hst
        have HD := Lib.hid hd
        have HL := Lib.hid hL
        have HO := Lib.hid hO
        have HTL := Lib.hid hTL0
        clear hT0 hu0 hA0 hn0 hb0 hok hst hd hL hO b1 b2 hTL0
        go_wp2_with fail
        go_loopg [8, 9, 10, 11, 12, 13, 14] (L.length + 1) (fun q vm vh i _ _ _ _ wr => ∃ (k gm cm gh ch : Nat) (Ts : List Tbl) (ps : List Part), q + k = L.length + 1 ∧ i = .int .i64 k ∧ vm = .slice (some ⟨gm, 0, none⟩) Ts.length cm ∧ vh = .slice (some ⟨gh, 0, none⟩) ps.length ch ∧ Stay w T0 k wr gm cm gh ch Ts ps)
        case atStart => exact ⟨0, _, _, _, _, _, _, by omega, rfl, rfl, rfl, HST.out⟩
        case round =>
          obtain ⟨k, gm, cm, gh, ch, Ts, ps, hq, rfl, rfl, rfl, hst⟩ := hrel
          have HQ := Lib.hid hq
          have HS := Lib.hid hst
          have HLEN := Lib.hid hst.len
          have hpos := hst.pos
          have hmany := hst.many
          have hg : Grows w wr := Grows.of_below hst.below
          clear hq hst HST
          by_cases h1 : k < L.length
          · have hkk : Int.tmod (k : Int) 5 = ((k % 5 : Nat) : Int) := by rw [Int.tmod_eq_emod_of_nonneg (by omega)]; rfl
            have hnz : ((Ts.length : Int) == 0) = false := by rw [beq_eq_false_iff_ne]; omega
            obtain ⟨b, o, hAe, hb, e0, e1, e2⟩ := (HL.out.grows hg).rd.cut k h1
            have hb : InHeap b wr := hb
            have hc := (HL.out.grows hg).each L[k] (List.getElem_mem h1)
            have hins := (HM.out L[k] (List.getElem_mem h1)).1
            obtain ⟨ha, hde, hcm⟩ := hc
            have HCM := Lib.hid hcm
            have hgm := (own_block HS.out.kept.made).2
            have hgh := (own_block HS.out.kept.had).2
            have hgmi : InHeap gm wr := hgm
            have HG := Lib.hid hg
            subst hAe
            clear hcm hg
            by_cases hko : k < os.length
            case' pos =>
              obtain ⟨b2, o2, rfl, hb2, f2⟩ := (HO.out.grows HG.out).at_ k hko
              have hb2 : InHeap b2 wr := hb2
              have hby := HO.out.each os[k] (List.getElem_mem hko)
              obtain ⟨y, hy⟩ : ∃ y : Nat, os[k] = y := ⟨os[k].toNat, by omega⟩
              rw [hy] at f2 hby
              have hmd : Int.tmod (y : Int) (Ts.length : Int) = ((y % Ts.length : Nat) : Int) := by rw [Int.tmod_eq_emod_of_nonneg (by omega)]; rfl
              have hjl : y % Ts.length < Ts.length := Nat.mod_lt _ hpos
              go_upto_region 14 with fail
              obtain ⟨j, hj⟩ : ∃ j : Nat, y % Ts.length = j := ⟨_, rfl⟩
              rw [show (y : Int) % (Ts.length : Int) = ((y % Ts.length : Nat) : Int) from rfl, hj]
              rw [hj] at hjl
              have hmc := HS.out.kept.made_cell j hjl
              obtain ⟨T, hTe⟩ : ∃ T, Ts[j] = T := ⟨_, rfl⟩
              have hTm : T ∈ Ts := by rw [← hTe]; exact List.getElem_mem hjl
              rw [hTe] at hmc
              obtain ⟨t1, t2, t3⟩ := HS.out.kept.tabs T hTm
              have HT := Lib.hid t1
              clear t1 hmd hby f2 hj
              go_region_held3 (fun w' => w'.cell? ⟨b, o + k * 3, none⟩ = some (.int .i64 L[k].at_) ∧ w'.cell? ⟨b, o + k * 3 + 1, none⟩ = some (.int .i64 L[k].del) ∧ w'.cell? ⟨b, o + k * 3 + 2, none⟩ = some (.slice L[k].A L[k].ins.length L[k].cap) ∧ w'.cell? ⟨gm, j, none⟩ = some (.pointer (some ⟨T.g, 0, none⟩)))
                (first | (simp [go_sem, hb, e0, e1, e2, hgmi, hmc]; done))
                (first | (go_at_call 17; (with_reducible refine (splice_ptr T _ (HT.out.grows (by repeat' first | exact Grows.refl _ | refine Grows.more ?_ _ | refine Grows.alloc ?_ _ | refine Grows.drew ?_)) L[k].at_ L[k].del L[k].A _ L[k].cap L[k].ins rfl (HCM.out.rd.grows (by repeat' first | exact Grows.refl _ | refine Grows.more ?_ _ | refine Grows.alloc ?_ _ | refine Grows.drew ?_)) HCM.out.nil (by omega) HCM.out.each ha hde).mono ?_); rintro e w5 ⟨v, rfl, hno, hyes, m5, rfl⟩))
            case' neg =>
              go_upto_region 14 with fail
              have hmc := HS.out.kept.made_cell 0 hpos
              obtain ⟨T, hTe⟩ : ∃ T, Ts[0] = T := ⟨_, rfl⟩
              have hTm : T ∈ Ts := by rw [← hTe]; exact List.getElem_mem hpos
              rw [hTe] at hmc
              obtain ⟨t1, t2, t3⟩ := HS.out.kept.tabs T hTm
              have HT := Lib.hid t1
              clear t1
              go_region_held3 (fun w' => w'.cell? ⟨b, o + k * 3, none⟩ = some (.int .i64 L[k].at_) ∧ w'.cell? ⟨b, o + k * 3 + 1, none⟩ = some (.int .i64 L[k].del) ∧ w'.cell? ⟨b, o + k * 3 + 2, none⟩ = some (.slice L[k].A L[k].ins.length L[k].cap) ∧ w'.cell? ⟨gm, 0, none⟩ = some (.pointer (some ⟨T.g, 0, none⟩)))
                (first | (simp [go_sem, hb, e0, e1, e2, hgmi, hmc]; done))
                (first | (go_at_call 17; (with_reducible refine (splice_ptr T _ (HT.out.grows (by repeat' first | exact Grows.refl _ | refine Grows.more ?_ _ | refine Grows.alloc ?_ _ | refine Grows.drew ?_)) L[k].at_ L[k].del L[k].A _ L[k].cap L[k].ins rfl (HCM.out.rd.grows (by repeat' first | exact Grows.refl _ | refine Grows.more ?_ _ | refine Grows.alloc ?_ _ | refine Grows.drew ?_)) HCM.out.nil (by omega) HCM.out.each ha hde).mono ?_); rintro e w5 ⟨v, rfl, hno, hyes, m5, rfl⟩))
            all_goals
              have hTok := HS.out.good T hTm
              have HST := HS
              have HS1 : Hid (Stay w T0 k (more wr m5) gm cm gh ch Ts ps) := Lib.hid (HS.out.grows (Grows.of _ _))
              clear e0 e1 e2 hmc
              by_cases hz : (spliceV T.L L[k].at_ L[k].del L[k].ins).2 = 0
              · obtain ⟨U, rfl, hU, hUL, hUu, -⟩ := hyes hz
                have hgood := (spliceV_good hTok hz).2.2.2.2.2
                rw [← hUL] at hgood
                have hU : U.ok (more wr m5) := hU
                have hum : ¬U.uses gm := fun hu => by
                  rcases hUu _ hu with h | h
                  · exact t2 h
                  · exact absurd (show wr.heap.size ≤ gm from h) (by omega)
                have huh : ¬U.uses gh := fun hu => by
                  rcases hUu _ hu with h | h
                  · exact t3 h
                  · exact absurd (show wr.heap.size ≤ gh from h) (by omega)
                rw [hz]
                have HU : Hid (U.ok (more wr m5)) := Lib.hid hU
                have HGD := Lib.hid hgood
                clear hno hyes hz hUL hUu hU hgood HS hgmi hgm hgh HT HCM hb HG
                generalize more wr m5 = W at *
                go_wp2_with (at_builtin; refine wpList_append_own_at _ rfl (.tmp 80) (.tmp 82) 56 rfl w.heap.size 27 i0 (.pointer none) 1 8 Try.underlying56 hi hz0 hz1 hz2 rfl (by decide) _ _ _ rfl (HS1.out.kept.made.alloc _) ⟨W.heap.size, 0, none⟩ 1 1 [.pointer (some ⟨U.g, 0, none⟩)] rfl rfl (cell_one_new _ _ _) (by simp [Value.oneCell']) (by unfold maxLen; omega) (by omega) (by have := HS1.out.below.size; simp; omega) ?_; intro v' w1 hown' hgrow _ hat; obtain ⟨gm', cm', rfl, hk1⟩ := HS1.out.kept.push_made HU.out hum huh hown' hgrow hat; have HB1 := Lib.hid (HS1.out.kept.below_made HS1.out.below hgrow); have HK1 := Lib.hid hk1; clear hown' hgrow hat hk1)
                (with_reducible refine (all_ptr U w1 (HK1.out.tabs U (by simp)).1).mono ?_)
                rintro e w6 ⟨v6, rfl, hown6, m6, rfl⟩
                obtain ⟨A6, c6, rfl, b61, b62, hA6, hn6, hb6⟩ := own_row hown6
                clear hown6
                have g6 : Grows w1 (more w1 m6) := Grows.of _ _
                have HK2 := Lib.hid (HK1.out.grows g6)
                have HB2 := Lib.hid (HB1.out.trans (g6.below.mono (by have := HB1.out.size; omega)))
                have HQ6 : Hid ((Part.mk A6 c6 U.L).good (more w1 m6)) := Lib.hid ⟨⟨hA6, hn6⟩, b61, b62⟩
                have HF : Hid (∀ a, A6 = some a → 0 < U.L.length → a.block ≠ gm' ∧ a.block ≠ gh) := Lib.hid fun a ha _ => by
                  have h1 := (hb6 a ha).2
                  have h2 := (own_block HK1.out.made).2
                  have h3 := (own_block HK1.out.had).2
                  constructor <;> omega
                clear hA6 hn6 hb6 b61 b62 g6
                generalize more w1 m6 = W2 at *
                by_cases h5 : k % 5 = 0
                · have d5 : (k : Int) % 5 = 0 := by omega
                  have d6 : ((k : Int) % 5 == 0) = true := by rw [d5]; rfl
                  go_wp2_with (at_builtin; go_must (refine wpList_append_own_at _ rfl (.tmp 84) (.tmp 87) 57 rfl w.heap.size 22 i1 (.slice none 0 0) 1 24 Try.underlying57 hi' hy0 hy1 hy2 rfl (by decide) _ _ _ rfl (HK2.out.had.alloc _) ⟨W2.heap.size, 0, none⟩ 1 1 [.slice A6 U.L.length c6] rfl rfl (cell_one_new _ _ _) (by simp [Value.oneCell']) (by unfold maxLen; have := HLEN.out; omega) (by have := HLEN.out; omega) (by have := HB2.out.size; simp; omega) ?_); intro v' w3 hown' hgrow _ hat; go_must (obtain ⟨gh', ch', rfl, hk3⟩ := HK2.out.push_had HQ6.out HF.out hown' hgrow hat; have HB3 := Lib.hid (HK2.out.below_had HB2.out hgrow); have HK3 := Lib.hid hk3); clear hown' hgrow hat hk3)
                  clear HK2 HQ6 HF HB2 HK1 HB1
                  (with_reducible refine (compact_ptr U w3 (HK3.out.tabs U (by simp)).1).mono ?_)
                  rintro e w7 ⟨C, rfl, hC, hCL, ⟨m7, rfl⟩, hCu, -⟩
                  have g7 : Grows w3 (more w3 m7) := Grows.of _ _
                  have HK4 := Lib.hid (HK3.out.grows g7)
                  have HB4 := Lib.hid (HB3.out.trans (g7.below.mono (by have := HB3.out.size; omega)))
                  have hcm : ¬C.uses gm' := fun hu => by have := hCu _ hu; have h2 := (own_block HK3.out.made).2; omega
                  have hch : ¬C.uses gh' := fun hu => by have := hCu _ hu; have h2 := (own_block HK3.out.had).2; omega
                  have HC := Lib.hid hC
                  have HCL := Lib.hid hCL
                  clear hC hCu g7 hCL HK3 HB3
                  generalize more w3 m7 = W4 at *
                  have HLM : Hid (Ts.length + 1 = (Ts ++ [U]).length) := Lib.hid (by simp)
                  have HLH : Hid (ps.length + 1 = (ps ++ [(⟨A6, c6, U.L⟩ : Part)]).length) := Lib.hid (by simp)
                  have hpl : ps.length ≤ 2000 := by have := HLEN.out; omega
                  go_wp2_with (first
                    | (at_builtin; refine wpList_append_own_at _ rfl (.tmp 94) (.tmp 96) 56 rfl w.heap.size 27 i0 (.pointer none) 1 8 Try.underlying56 hi hz0 hz1 hz2 rfl (by decide) _ _ _ rfl ((HK4.out.made_n HLM.out).alloc _) ⟨W4.heap.size, 0, none⟩ 1 1 [.pointer (some ⟨C.g, 0, none⟩)] rfl rfl (cell_one_new _ _ _) (by simp [Value.oneCell']) (by unfold maxLen; omega) (by omega) (by have := HB4.out.size; simp; omega) ?_; intro v' w5 hown' hgrow _ hat; obtain ⟨gm3, cm3, rfl, hk5⟩ := HK4.out.push_made_n _ HLM.out HC.out hcm hch hown' hgrow hat; have HB5 := Lib.hid (HK4.out.below_made HB4.out hgrow); have HK5 := Lib.hid hk5; have hce : w5.cell? ⟨gh', ps.length, none⟩ = some (.slice A6 U.L.length c6) := (by have h9 := hk5.had_cell ps.length (by simp); simpa using h9); have hie : InHeap gh' w5 := (own_block hk5.had).2; clear hown' hgrow hat hk5)
                    | (at_builtin; go_must (refine wpList_append_own_at _ rfl (.tmp 98) (.tmp 105) 57 rfl w.heap.size 22 i1 (.slice none 0 0) 1 24 Try.underlying57 hi' hy0 hy1 hy2 rfl (by decide) _ _ _ rfl ((HK5.out.had_n HLH.out).alloc _) ⟨w5.heap.size, 0, none⟩ 1 1 [.slice A6 U.L.length c6] rfl rfl (cell_one_new _ _ _) (by simp [Value.oneCell']) (by unfold maxLen; have := HLEN.out; omega) (by have := HLEN.out; omega) (by have := HB5.out.size; simp; omega) ?_); intro v' w6 hown' hgrow _ hat; go_must (obtain ⟨gh4, ch4, rfl, hk6⟩ := HK5.out.push_had_n _ HLH.out (HK5.out.parts _ (by simp)).1 (HK5.out.parts ⟨A6, c6, U.L⟩ (by simp)).2 hown' hgrow hat; have HB6 := Lib.hid (HK5.out.below_had HB5.out hgrow); have HK6 := Lib.hid hk6); clear hown' hgrow hat hk6))
                  go_roundg (gk - 1)
                  case measure => have := HQ.out; omega
                  case rel => exact ⟨k + 1, gm3, cm3, gh4, ch4, Ts ++ [U] ++ [C], ps ++ [⟨A6, c6, U.L⟩] ++ [⟨A6, c6, U.L⟩], by have := HQ.out; omega, by go_num, by simp, by simp, HST.out.two HK6.out rfl HCL.out HGD.out HB6.out⟩
                · have d5 : ¬(k : Int) % 5 = 0 := by omega
                  have d6 : ((k : Int) % 5 == 0) = false := by rw [beq_eq_false_iff_ne]; exact d5
                  go_wp2_with (at_builtin; go_must (refine wpList_append_own_at _ rfl (.tmp 84) (.tmp 87) 57 rfl w.heap.size 22 i1 (.slice none 0 0) 1 24 Try.underlying57 hi' hy0 hy1 hy2 rfl (by decide) _ _ _ rfl (HK2.out.had.alloc _) ⟨W2.heap.size, 0, none⟩ 1 1 [.slice A6 U.L.length c6] rfl rfl (cell_one_new _ _ _) (by simp [Value.oneCell']) (by unfold maxLen; have := HLEN.out; omega) (by have := HLEN.out; omega) (by have := HB2.out.size; simp; omega) ?_); intro v' w3 hown' hgrow _ hat; go_must (obtain ⟨gh', ch', rfl, hk3⟩ := HK2.out.push_had HQ6.out HF.out hown' hgrow hat; have HB3 := Lib.hid (HK2.out.below_had HB2.out hgrow); have HK3 := Lib.hid hk3); clear hown' hgrow hat hk3)
                  clear HK2 HQ6 HF HB2 HK1 HB1
                  go_roundg (gk - 1)
                  case measure => have := HQ.out; omega
                  case rel => exact ⟨k + 1, gm', cm', gh', ch', Ts ++ [U], ps ++ [⟨A6, c6, U.L⟩], by have := HQ.out; omega, by go_num, by simp, by simp, HST.out.one HK3.out rfl HGD.out HB3.out⟩
              · have hz' : ((spliceV T.L L[k].at_ L[k].del L[k].ins).2 != 0) = true := by simpa using hz
                clear hno hyes hz
                go_wp2_with fail
                go_roundg (gk - 1)
                case measure => have := HQ.out; omega
                case rel => exact ⟨k + 1, gm, cm, gh, ch, Ts, ps, by have := HQ.out; omega, by go_num, rfl, rfl, HS1.out.next⟩
          · have hTsl : Ts.length ≤ 2000 := by have := HQ.out; omega
            have HG := Lib.hid hg
            clear hg
            go_wp2_with fail
            go_loopg [15] Ts.length (fun q i wq => ∃ (j : Nat), q + j = Ts.length ∧ i = .int .i64 j ∧ Stay w T0 k wq gm cm gh ch Ts ps)
            case atStart => exact ⟨0, by omega, rfl, HS.out⟩
            case round =>
              obtain ⟨j, hq2, rfl, hst2⟩ := hrel
              have HQ2 := Lib.hid hq2
              have HS2 := Lib.hid hst2
              have hgmi : InHeap gm wr := (own_block hst2.kept.made).2
              have hghi : InHeap gh wr := (own_block hst2.kept.had).2
              have hg2 : Grows w wr := Grows.of_below hst2.below
              have HG2 := Lib.hid hg2
              clear hq2 hst2 hg2 HS HG
              by_cases h2 : j < Ts.length
              · have hjp : j < ps.length := by have := HLEN.out; omega
                have hm9 := HS2.out.kept.made_cell j h2
                have hh9 := HS2.out.kept.had_cell j hjp
                have hsm := HS2.out.at_ j h2 hjp
                obtain ⟨T, hTe⟩ : ∃ T, Ts[j] = T := ⟨_, rfl⟩
                obtain ⟨p, hpe⟩ : ∃ p, ps[j] = p := ⟨_, rfl⟩
                have hTm : T ∈ Ts := by rw [← hTe]; exact List.getElem_mem h2
                have hpm : p ∈ ps := by rw [← hpe]; exact List.getElem_mem hjp
                rw [hTe, hpe] at hsm
                rw [hTe] at hm9
                rw [hpe, ← hsm] at hh9
                have HT := Lib.hid (HS2.out.kept.tabs T hTm).1
                have HP : Hid (Rd wr 1 p.A T.L.length (lv T.L)) := Lib.hid (by rw [hsm]; exact (HS2.out.kept.parts p hpm).1.1.1)
                have hTl : T.L.length ≤ 9223372036854775807 := by have := (lcheckV_good.1 (HS2.out.good T hTm)).1; omega
                clear hTe hpe hsm hTm hpm
                go_upto_region 25 with fail
                go_region_held3 (fun w' => w'.cell? ⟨gm, j, none⟩ = some (.pointer (some ⟨T.g, 0, none⟩)) ∧ w'.cell? ⟨gh, j, none⟩ = some (.slice p.A T.L.length p.cap))
                  (first | (simp [go_sem, hgmi, hghi, hm9, hh9]; done))
                  (first
                    | (go_at_call 20; (with_reducible refine (all_ptr T _ (HT.out.grows (by repeat' first | exact Grows.refl _ | refine Grows.more ?_ _ | refine Grows.alloc ?_ _ | refine Grows.drew ?_))).mono ?_); rintro e w7 ⟨v7, rfl, hown7, m7, rfl⟩; obtain ⟨A7, c7, rfl, -, -, hA7, -⟩ := own_row hown7; clear hown7; replace hA7 : Rd (more wr m7) 1 A7 _ _ := hA7)
                    | (go_at_call 19; (with_reducible refine (lawSame_at A7 p.A c7 p.cap _ _ T.L T.L _ (hA7.grows (by repeat' first | exact Grows.refl _ | refine Grows.more ?_ _ | refine Grows.alloc ?_ _ | refine Grows.drew ?_)) (HP.out.grows (by repeat' first | exact Grows.refl _ | refine Grows.more ?_ _ | refine Grows.alloc ?_ _ | refine Grows.drew ?_)) (by omega) (by omega) rfl rfl).mono ?_); rw [sameL_self]; rintro e w8 ⟨rfl, m8, rfl⟩))
                go_wp2_with fail
                go_roundg (gk - 1)
                case measure => have := HQ2.out; omega
                case rel => exact ⟨j + 1, by have := HQ2.out; omega, by go_num, HS2.out.grows (by repeat' first | exact Grows.refl _ | refine Grows.more ?_ _ | refine Grows.alloc ?_ _ | refine Grows.drew ?_)⟩
              · have hT0 : T0 ∈ Ts := by
                  obtain ⟨Us, hu⟩ := HS2.out.head
                  rw [hu]; simp
                go_wp2_with fail
                (with_reducible refine (all_ptr T0 _ (HS2.out.kept.tabs T0 hT0).1).mono ?_)
                rw [HTL.out]
                rintro e w7 ⟨v7, rfl, hown7, m7, rfl⟩
                obtain ⟨A7, c7, rfl, -, -, hA7, -⟩ := own_row hown7
                clear hown7
                go_wp2_with fail
                (with_reducible refine (lawSame_at A7 Ad c7 cd _ _ d d _ hA7 ((HD.out.grows HG2.out).rd.grows (Grows.of _ _)) (by omega) (by omega) rfl rfl).mono ?_)
                rw [sameL_self]
                rintro e w8 ⟨rfl, m8, rfl⟩
                go_wp2_with fail
                (with_reducible refine (does_any _).mono ?_)
                rintro e w9 ⟨rfl, m9, rfl⟩
                go_wp2_with fail
                go_ret
                exact ⟨rfl, ((HG2.out.more _).more _).more _⟩
      · go_wp2_with fail
        (with_reducible refine (new_no Ad cd d _ hd.rd (by omega) hd.each hok).mono ?_)
        rintro e w1 ⟨rfl, rfl⟩
        go_wp2_with fail
        (with_reducible refine (does_any _).mono ?_)
        rintro e w1 ⟨rfl, m4, rfl⟩
        go_wp2_with fail
        go_ret
        exact ⟨rfl, Grows.of _ _⟩
end Go.Proofs.Ytblcggmbaofflaa
