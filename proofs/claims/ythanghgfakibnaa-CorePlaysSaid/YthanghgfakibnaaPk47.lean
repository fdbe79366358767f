/-
  Chapter 19's does: a change's end, an undo, a register.
-/
import Derived.Test.YthanghgfakibnaaPk46
import Derived.Test.YthanghgfakibnaaPk33
namespace Go.Proofs.Ythanghgfakibnaa
open Go.RowKit

section
variable {W w w' : World} {X K K2 : Nat → Prop} {g g2 p : Nat} {c c' : CoV} {s : AcC} {n : Nat}
set_option maxRecDepth 3000 in
theorem wanted_undef {ops : Array Oper} {a : Act} {o ok : Oper} {k dk : Nat} {b : Bool} (hg : o.guard = some (k, b)) (hk : ops[k]? = some ok) (hdk : ok.dst = some dk) (hv : a.eval (.tmp dk) = undef) : Region.wanted o (yielded ops a.tmps) = false := by
  have h2 : a.tmps.getD dk undef = undef := hv
  unfold Region.wanted yielded
  rw [hg]
  simp only [hk, hdk, Option.bind_some]
  rw [Array.getD_eq_getD_getElem?] at h2
  cases h : a.tmps[dk]? with
  | none => rfl
  | some x => rw [h] at h2; simp only [Option.getD_some] at h2; subst h2; rfl
set_option maxRecDepth 3000 in
theorem ro_set {okx : Nat → Prop} (hC : Ro W X K g c w) (hp : w.cell? ⟨g, 29, none⟩ = some (.pointer (some ⟨p, 0, none⟩))) (l : Int) (k : Nat) (hl : l = k) (hk9 : k < 256) (A : Option Addr) (n cap : Nat) (b : Bool) (x : Rg) (hn : n = x.d.length) (hb : b = x.whole) (hx : LRd okx w A cap x.d) (hox : ∀ b, okx b → ¬ K b) (hf : x.fits) (c' : CoV) (m : Int) (hm : coSet c k x = (c', m)) :
    Calls Try.prog 63 #[.pointer (some ⟨p, 0, none⟩), .int .u8 l, .agg #[.slice A n cap, .bool b]] w fun e w' => e = .returned (.int .i64 m) ∧ Ro W X K g c' w' ∧ Step K K w w' ∧ w'.cell? ⟨g, 29, none⟩ = some (.pointer (some ⟨p, 0, none⟩)) := by
  obtain ⟨q, hq⟩ := hC.rat
  have h2 := hq.cell
  rw [hp] at h2
  cases h2
  exact ratR_set hC hq l k hl hk9 A n cap b x hn hb hx hox hf c' m hm
set_option maxRecDepth 3000 in
theorem Ro.own (h : Ro W X K g c w) : K g := by
  obtain ⟨ok, tv, rv, uv, wv, hv, dv, r, r2, D, hM, hX⟩ := h.at_
  exact hM.Kg
set_option maxRecDepth 3000 in
/-- End, with where what it answers lies. -/
theorem co_endF (h : Co W X K g c w) (c' : CoV) (l : List SpV) (hn : coEnd c = (c', l)) (m : Nat) (hm : m = l.length) : Calls Try.prog 24 #[.pointer (some ⟨g, 0, none⟩)] w fun e w' => ∃ A cap, ∃ D : List Spx, e = .returned (.slice A m cap) ∧ D.map Spx.v = l ∧ Rd w' 3 A D.length (D.flatMap Spx.cells) ∧ (∀ a, A = some a → K a.block) ∧ (∀ s ∈ D, LRd (fun b => ¬ X b) w' s.A s.cap s.ins) ∧ Co W X K g c' w' ∧ Step K K w w' := by
  obtain ⟨ok, tv, rv, uv, wv, hv, dv, r, r2, D, hM, hX⟩ := h.at_
  refine (end_any hM).mono ?_
  rintro e w' ⟨A, cap, D', rfl, hv', ho, he, hk, hat, hc⟩
  rw [hn] at hv' hat
  obtain ⟨h1, h2⟩ := h.same hX hat hc
  have hdl : D'.length = m := by rw [hm]; have := congrArg List.length hv'; simpa using this
  refine ⟨A, cap, D', by rw [hdl], hv', rd_own3 ho, (fun a e => hk a.block (by rw [e]; rfl)), (fun s hs => (he s hs).mono fun b _ hb e => hX b e hb), h1, h2⟩
set_option maxRecDepth 3000 in
/-- Undo, with where what it answers lies. -/
theorem co_undoF (h : Co W X K g c w) (c' : CoV) (n : Int) (l : List SpV) (hn : coUndo c = (c', n)) (hl : undoL c = l) (m : Nat) (hm : m = l.length) : Calls Try.prog 9 #[.pointer (some ⟨g, 0, none⟩)] w fun e w' => ∃ A cap, ∃ D : List Spx, e = .returned (.tuple #[.slice A m cap, .int .i64 n]) ∧ D.map Spx.v = l ∧ Rd w' 3 A D.length (D.flatMap Spx.cells) ∧ (∀ a, A = some a → w.heap.size ≤ a.block) ∧ (∀ s ∈ D, LRd (fun b => w.heap.size ≤ b) w' s.A s.cap s.ins) ∧ Co W X K g c' w' ∧ Step K K w w' := by
  obtain ⟨ok, tv, rv, uv, wv, hv, dv, r, r2, D, hM, hX⟩ := h.at_
  refine (undo_any hM).mono ?_
  rintro e w' ⟨A, cap, D', rfl, hv', hr, hA, he, hat, hc⟩
  rw [hn] at hat ⊢
  rw [hl] at hv'
  obtain ⟨h1, h2⟩ := h.same hX hat hc
  have hdl : D'.length = m := by rw [hm]; have := congrArg List.length hv'; simpa using this
  exact ⟨A, cap, D', by rw [hdl], hv', hr, hA, he, h1, h2⟩
set_option maxRecDepth 3000 in
theorem end_good (h : c.good) : ∀ v ∈ (coEnd c).2, v.good := by
  unfold coEnd
  split
  · simp
  · split
    · simp
    · exact h.did
set_option maxRecDepth 3000 in
/-- The cells of a splice among splices. -/
theorem rd_sp {A : Option Addr} {D : List Spx} (h : Rd w 3 A D.length (D.flatMap Spx.cells)) (k : Nat) (hk : k < D.length) (v : SpV) (hv : D[k].v = v) : ∃ b o, A = some ⟨b, o, none⟩ ∧ InHeap b w ∧ w.cell? ⟨b, o + k * 3, none⟩ = some (.int .i64 v.at_) ∧ w.cell? ⟨b, o + k * 3 + 1, none⟩ = some (.int .i64 v.del) ∧ w.cell? ⟨b, o + k * 3 + 2, none⟩ = some (.slice D[k].A v.ins.length D[k].cap) := by
  subst hv
  exact h.sp k hk
set_option maxRecDepth 3000 in
set_option maxHeartbeats 2000000 in
theorem does_4 (h : Ahead W K K2 g g2 c s n w) (ht : n % 12 = 4) :
    Calls Try.prog 34 #[.pointer (some ⟨g, 0, none⟩), .pointer (some ⟨g2, 0, none⟩), .agg #[.int .u8 n, .int .i64 s.at_, .int .i64 s.del, .slice s.A s.ins.length s.cap, .int .i64 s.line, .int .u8 s.letter, .string (tx s.text)]] w (Done W g g2 ((coEnd c).1)) := by
  have t0 : ((n : Int) % 12 == 0) = false := by rw [beq_eq_false_iff_ne]; omega
  have t1 : ((n : Int) % 12 == 1) = false := by rw [beq_eq_false_iff_ne]; omega
  have t2 : ((n : Int) % 12 == 2) = false := by rw [beq_eq_false_iff_ne]; omega
  have t3 : ((n : Int) % 12 == 3) = false := by rw [beq_eq_false_iff_ne]; omega
  have t4 : ((n : Int) % 12 == 4) = true := by rw [beq_iff_eq]; omega
  have hn : n < 256 := by have := h.sok.kind; have := h.kind; omega
  have H := Lib.hid h
  have hfr : Hid (∀ {K : Nat → Prop}, (∀ b, K b → b < w.heap.size) → ¬ K w.heap.size) := Lib.hid (fun h1 h2 => Nat.lt_irrefl _ (h1 _ h2))
  have hdn := h.did
  have hdl : (coEnd c).2.length ≤ 1000000 := by
    unfold coEnd
    split
    · simp
    · split
      · simp
      · exact hdn
  have hsm : Hid (∀ v ∈ (coEnd c).2, v.ins.length ≤ 1000000) := Lib.hid (fun v hv => by
    have := end_good h.z.a.good v hv
    have := (lcheckV_good.1 this.ins).1
    omega)
  clear h ht hdn
  go_enter Try.func34, Try.ntmps34
  go_wp2_with fail
  obtain ⟨⟨c', l⟩, hcl⟩ : ∃ x, coEnd c = x := ⟨_, rfl⟩
  have HCL := Lib.hid hcl
  rw [hcl] at hdl hsm ⊢
  obtain ⟨m, hm⟩ : ∃ m, m = l.length := ⟨_, rfl⟩
  have hm6 : m ≤ 1000000 := by have h9 : l.length ≤ 1000000 := hdl; omega
  have HM := Lib.hid hm
  clear hcl hdl hm
  (with_reducible refine (co_endF (H.out.z.a.grows (by repeat' first | exact Grows.refl _ | refine Grows.more ?_ _ | refine Grows.alloc ?_ _ | refine Grows.drew ?_ | refine Grows.drewN ?_ _)) c' l HCL.out m HM.out).mono ?_)
  rintro e w2 ⟨A1, cap1, D1, rfl, hD1, hR1, hA1, hL1, hC, hst⟩
  have Z5 := Lib.hid ((H.out.z.grows (by repeat' first | exact Grows.refl _ | refine Grows.more ?_ _ | refine Grows.alloc ?_ _ | refine Grows.drew ?_ | refine Grows.drewN ?_ _)).stepA hC hst)
  have R1 := Lib.hid hR1
  have B1 := Lib.hid hA1
  have L1 := Lib.hid hL1
  have E1 := Lib.hid hD1
  clear hC hst hR1 hA1 hL1 hD1
  go_wp2_with fail
  (with_reducible refine (ro_end (Z5.out.b.grows (by repeat' first | exact Grows.refl _ | refine Grows.more ?_ _ | refine Grows.alloc ?_ _ | refine Grows.drew ?_ | refine Grows.drewN ?_ _)) c' l HCL.out m HM.out).mono ?_)
  rintro e w3 ⟨A2, cap2, D2, rfl, hD2, hR2, hL2, hC, hst⟩
  have Z6 := Lib.hid ((Z5.out.grows (by repeat' first | exact Grows.refl _ | refine Grows.more ?_ _ | refine Grows.alloc ?_ _ | refine Grows.drew ?_ | refine Grows.drewN ?_ _)).stepB hC hst)
  have R2 := Lib.hid hR2
  have L2 := Lib.hid hL2
  have E2 := Lib.hid hD2
  have R1' := Lib.hid ((R1.out.grows (by repeat' first | exact Grows.refl _ | refine Grows.more ?_ _ | refine Grows.alloc ?_ _ | refine Grows.drew ?_ | refine Grows.drewN ?_ _)).chg hst.chg (fun _ a e k => (Z5.out.a.out _ k).1 (B1.out a e)))
  have L1' := Lib.hid (fun s hs => LRd.chg ((L1.out s hs).grows (by repeat' first | exact Grows.refl _ | refine Grows.more ?_ _ | refine Grows.alloc ?_ _ | refine Grows.drew ?_ | refine Grows.drewN ?_ _)) hst.chg (fun b _ h1 h2 => h1 h2))
  clear hC hst hR2 hL2 hD2 R1 L1 B1 Z5
  have N1 : Hid (D1.length = m) := Lib.hid (by rw [HM.out, ← E1.out]; simp)
  have N2 : Hid (D2.length = m) := Lib.hid (by rw [HM.out, ← E2.out]; simp)
  go_wp2_with fail
  go_loopg [9] m (fun q i wr => ∃ k : Nat, q + k = m ∧ i = .int .i64 k ∧ Grows w3 wr)
  case atStart => exact ⟨0, by omega, rfl, (by repeat' first | exact Grows.refl _ | refine Grows.more ?_ _ | refine Grows.alloc ?_ _ | refine Grows.drew ?_ | refine Grows.drewN ?_ _)⟩
  case round =>
    obtain ⟨k, hq, rfl, hg⟩ := hrel
    have HQ := Lib.hid hq
    have G := Lib.hid hg
    have hkm : k ≤ m := by omega
    clear hq hg
    by_cases h2 : k < m
    · have hk1 : k < D1.length := by rw [N1.out]; exact h2
      have hk2 : k < D2.length := by rw [N2.out]; exact h2
      have hkl : k < l.length := by rw [← HM.out]; exact h2
      have v1 : D1[k].v = l[k] := by have h3 := E1.out; subst h3; simp
      have v2 : D2[k].v = l[k] := by have h3 := E2.out; rw [← List.getElem_map Spx.v (h := by simpa using hk2)]; simp [h3]
      obtain ⟨b1, o1, rfl, ib1, x0, x1, x2⟩ := rd_sp (R1'.out.grows G.out) k hk1 l[k] v1
      obtain ⟨b2, o2, rfl, ib2, y0, y1, y2⟩ := rd_sp (R2.out.grows G.out) k hk2 l[k] v2
      have S1 := Lib.hid ((L1'.out _ (List.getElem_mem hk1)).grows G.out)
      have S2 := Lib.hid ((L2.out _ (List.getElem_mem hk2)).grows G.out)
      have i1 : D1[k].ins = l[k].ins := congrArg SpV.ins v1
      have i2 : D2[k].ins = l[k].ins := congrArg SpV.ins v2
      have hsk : l[k].ins.length ≤ 1000000 := hsm.out _ (List.getElem_mem hkl)
      rw [i1] at S1
      rw [i2] at S2
      have k0 : (0 : Int) ≤ (k : Int) := by omega
      have k1 : (k : Int) < (m : Int) := by omega
      generalize D1[k].A = B1 at *
      generalize D1[k].cap = C1 at *
      generalize D2[k].A = B2 at *
      generalize D2[k].cap = C2 at *
      generalize l[k] = v at *
      clear v1 v2 i1 i2
      go_wp2_with fail
      go_region_held3 (fun w' => w'.cell? ⟨b1, o1 + k * 3, none⟩ = some (.int .i64 v.at_) ∧ w'.cell? ⟨b1, o1 + k * 3 + 1, none⟩ = some (.int .i64 v.del) ∧ w'.cell? ⟨b1, o1 + k * 3 + 2, none⟩ = some (.slice B1 v.ins.length C1) ∧ w'.cell? ⟨b2, o2 + k * 3, none⟩ = some (.int .i64 v.at_) ∧ w'.cell? ⟨b2, o2 + k * 3 + 1, none⟩ = some (.int .i64 v.del) ∧ w'.cell? ⟨b2, o2 + k * 3 + 2, none⟩ = some (.slice B2 v.ins.length C2))
        (first | (simp [go_sem, ib1, ib2, x0, x1, x2, y0, y1, y2]; done))
        (first | (go_at_call 29; (with_reducible refine Calls.mono (same_eq B1 B2 C1 C2 v.ins.length v.ins.length v.ins _ (S1.out.rd.grows ?_) (S2.out.rd.grows ?_) hsk rfl rfl) ?_); (repeat' first | exact Grows.refl _ | refine Grows.more ?_ _ | refine Grows.alloc ?_ _ | refine Grows.drew ?_ | refine Grows.drewN ?_ _); rintro e w7 ⟨rfl, m7, rfl⟩))
      all_goals
        go_wp2_with fail
        go_roundg (gk - 1)
        case measure => have := HQ.out; omega
        case rel => exact ⟨k + 1, by have := HQ.out; omega, by go_num, G.out.trans (by repeat' first | exact Grows.refl _ | refine Grows.more ?_ _ | refine Grows.alloc ?_ _ | refine Grows.drew ?_ | refine Grows.drewN ?_ _)⟩
    · go_wp2_with fail
      go_ret
      refine ⟨rfl, ?_⟩
      rw [HCL.out]
      exact ⟨_, _, Z6.out.grows G.out⟩
set_option maxRecDepth 3000 in
set_option maxHeartbeats 2000000 in
theorem does_6y (h : Ahead W K K2 g g2 c s n w) (he : (coUndo c).2 = 0) (ht : n % 12 = 6) :
    Calls Try.prog 34 #[.pointer (some ⟨g, 0, none⟩), .pointer (some ⟨g2, 0, none⟩), .agg #[.int .u8 n, .int .i64 s.at_, .int .i64 s.del, .slice s.A s.ins.length s.cap, .int .i64 s.line, .int .u8 s.letter, .string (tx s.text)]] w (Done W g g2 ((coUndo c).1)) := by
  have t0 : ((n : Int) % 12 == 0) = false := by rw [beq_eq_false_iff_ne]; omega
  have t1 : ((n : Int) % 12 == 1) = false := by rw [beq_eq_false_iff_ne]; omega
  have t2 : ((n : Int) % 12 == 2) = false := by rw [beq_eq_false_iff_ne]; omega
  have t3 : ((n : Int) % 12 == 3) = false := by rw [beq_eq_false_iff_ne]; omega
  have t4 : ((n : Int) % 12 == 4) = false := by rw [beq_eq_false_iff_ne]; omega
  have t5 : ((n : Int) % 12 == 5) = false := by rw [beq_eq_false_iff_ne]; omega
  have t6 : ((n : Int) % 12 == 6) = true := by rw [beq_iff_eq]; omega
  have hn : n < 256 := by have := h.sok.kind; have := h.kind; omega
  have H := Lib.hid h
  have hfr : Hid (∀ {K : Nat → Prop}, (∀ b, K b → b < w.heap.size) → ¬ K w.heap.size) := Lib.hid (fun h1 h2 => Nat.lt_irrefl _ (h1 _ h2))
  obtain ⟨A0, cap0, p0, hS0⟩ := h.z.b.see
  obtain ⟨r0, -⟩ := hS0.five
  have ig0 := hS0.inh
  clear hS0
  clear h ht
  go_enter Try.func34, Try.ntmps34
  go_wp2_with fail
  obtain ⟨⟨c', n6⟩, hcl⟩ : ∃ x, coUndo c = x := ⟨_, rfl⟩
  have HCL := Lib.hid hcl
  rw [hcl] at he ⊢
  have he : n6 = 0 := he
  subst he
  have HU : Hid (undoL c = [⟨0, c.s.L.length, c'.s.L⟩]) := Lib.hid (by unfold undoL; rw [HCL.out]; rfl)
  clear hcl
  (with_reducible refine (co_undoF (H.out.z.a.grows (by repeat' first | exact Grows.refl _ | refine Grows.more ?_ _ | refine Grows.alloc ?_ _ | refine Grows.drew ?_ | refine Grows.drewN ?_ _)) c' 0 _ HCL.out HU.out 1 rfl).mono ?_)
  rintro e w2 ⟨A1, cap1, D1, rfl, hD1, hR1, hA1, hL1, hC, hst⟩
  have Z5 := Lib.hid ((H.out.z.grows (by repeat' first | exact Grows.refl _ | refine Grows.more ?_ _ | refine Grows.alloc ?_ _ | refine Grows.drew ?_ | refine Grows.drewN ?_ _)).stepA hC hst)
  obtain ⟨d1, rfl, hd1⟩ := map_one hD1
  have R1 := Lib.hid hR1
  have B1 := Lib.hid hA1
  have L1 := Lib.hid (hL1 d1 (by simp))
  have lt5 := Lib.hid H.out.z.b.lt
  clear hC hst hR1 hA1 hL1 hD1
  go_wp2_with fail
  (with_reducible refine (ro_back (Z5.out.b.grows (by repeat' first | exact Grows.refl _ | refine Grows.more ?_ _ | refine Grows.alloc ?_ _ | refine Grows.drew ?_ | refine Grows.drewN ?_ _)) c' 0 HCL.out).mono ?_)
  rintro e w3 ⟨rfl, hC, hst⟩
  have Z6 := Lib.hid ((Z5.out.grows (by repeat' first | exact Grows.refl _ | refine Grows.more ?_ _ | refine Grows.alloc ?_ _ | refine Grows.drew ?_ | refine Grows.drewN ?_ _)).stepB hC hst)
  have R1' := Lib.hid ((R1.out.grows (by repeat' first | exact Grows.refl _ | refine Grows.more ?_ _ | refine Grows.alloc ?_ _ | refine Grows.drew ?_ | refine Grows.drewN ?_ _)).chg hst.chg (fun _ a e k => by have h1 := B1.out a e; have h2 := lt5.out _ k; simp at h1; omega))
  have L1' := Lib.hid (LRd.chg (L1.out.grows (by repeat' first | exact Grows.refl _ | refine Grows.more ?_ _ | refine Grows.alloc ?_ _ | refine Grows.drew ?_ | refine Grows.drewN ?_ _)) hst.chg (fun b _ h1 k => by have h2 := lt5.out _ k; simp at h1; omega))
  obtain ⟨A, cap, p, hS⟩ := Z6.out.b.see
  obtain ⟨q0, -⟩ := hS.five
  have ig := hS.inh
  have hls : c'.s.L.length ≤ 1000000 := by have := hS.good.s.len; omega
  have HS := Lib.hid hS.lines
  obtain ⟨b1, o1, rfl, ib1, x0, x1, x2⟩ := rd_sp R1'.out 0 (by simp) ⟨0, c.s.L.length, c'.s.L⟩ (by simpa using hd1)
  have hi1 : d1.ins = c'.s.L := congrArg SpV.ins hd1
  rw [hi1] at L1'
  simp only [List.getElem_cons_zero, Nat.zero_mul, Nat.add_zero] at x0 x1 x2
  clear hC hst R1 L1 hS hd1 hi1 r0 ig0
  go_wp2_with fail
  go_region_held3 (fun w' => w'.cell? ⟨b1, o1, none⟩ = some (.int .i64 0) ∧ w'.cell? ⟨b1, o1 + 1, none⟩ = some (.int .i64 c.s.L.length) ∧ w'.cell? ⟨b1, o1 + 2, none⟩ = some (.slice d1.A c'.s.L.length d1.cap) ∧ w'.cell? ⟨g2, 0, none⟩ = some (.slice A c'.s.L.length cap))
    (first | (simp [go_sem, ib1, ig, x0, x1, x2, q0]; done))
    (first | (go_at_call 29; (with_reducible refine Calls.mono (same_eq d1.A A d1.cap cap c'.s.L.length c'.s.L.length c'.s.L _ (L1'.out.rd.grows ?_) (HS.out.rd.grows ?_) hls rfl rfl) ?_); (repeat' first | exact Grows.refl _ | refine Grows.more ?_ _ | refine Grows.alloc ?_ _ | refine Grows.drew ?_ | refine Grows.drewN ?_ _); rintro e w7 ⟨rfl, m7, rfl⟩))
  all_goals
    go_wp2_with fail
    go_ret
    refine ⟨rfl, ?_⟩
    rw [HCL.out]
    exact ⟨_, _, Z6.out.grows (by repeat' first | exact Grows.refl _ | refine Grows.more ?_ _ | refine Grows.alloc ?_ _ | refine Grows.drew ?_ | refine Grows.drewN ?_ _)⟩
set_option maxRecDepth 3000 in
set_option maxHeartbeats 2000000 in
theorem does_6n (h : Ahead W K K2 g g2 c s n w) (he : (coUndo c).2 ≠ 0) (ht : n % 12 = 6) :
    Calls Try.prog 34 #[.pointer (some ⟨g, 0, none⟩), .pointer (some ⟨g2, 0, none⟩), .agg #[.int .u8 n, .int .i64 s.at_, .int .i64 s.del, .slice s.A s.ins.length s.cap, .int .i64 s.line, .int .u8 s.letter, .string (tx s.text)]] w (Done W g g2 ((coUndo c).1)) := by
  have t0 : ((n : Int) % 12 == 0) = false := by rw [beq_eq_false_iff_ne]; omega
  have t1 : ((n : Int) % 12 == 1) = false := by rw [beq_eq_false_iff_ne]; omega
  have t2 : ((n : Int) % 12 == 2) = false := by rw [beq_eq_false_iff_ne]; omega
  have t3 : ((n : Int) % 12 == 3) = false := by rw [beq_eq_false_iff_ne]; omega
  have t4 : ((n : Int) % 12 == 4) = false := by rw [beq_eq_false_iff_ne]; omega
  have t5 : ((n : Int) % 12 == 5) = false := by rw [beq_eq_false_iff_ne]; omega
  have t6 : ((n : Int) % 12 == 6) = true := by rw [beq_iff_eq]; omega
  have hn : n < 256 := by have := h.sok.kind; have := h.kind; omega
  have H := Lib.hid h
  have hfr : Hid (∀ {K : Nat → Prop}, (∀ b, K b → b < w.heap.size) → ¬ K w.heap.size) := Lib.hid (fun h1 h2 => Nat.lt_irrefl _ (h1 _ h2))
  obtain ⟨A0, cap0, p0, hS0⟩ := h.z.b.see
  obtain ⟨r0, -⟩ := hS0.five
  have ig0 := hS0.inh
  clear hS0
  clear h ht
  go_enter Try.func34, Try.ntmps34
  go_wp2_with fail
  obtain ⟨⟨c', n6⟩, hcl⟩ : ∃ x, coUndo c = x := ⟨_, rfl⟩
  have HCL := Lib.hid hcl
  rw [hcl] at he ⊢
  have he : n6 ≠ 0 := he
  have HU : Hid (undoL c = []) := Lib.hid (by unfold undoL; rw [HCL.out]; exact if_neg he)
  have he' : (n6 == 0) = false := by rw [beq_eq_false_iff_ne]; exact he
  have he2 : (n6 != 0) = true := by simpa using he
  clear hcl
  (with_reducible refine (co_undoF (H.out.z.a.grows (by repeat' first | exact Grows.refl _ | refine Grows.more ?_ _ | refine Grows.alloc ?_ _ | refine Grows.drew ?_ | refine Grows.drewN ?_ _)) c' n6 _ HCL.out HU.out 0 rfl).mono ?_)
  rintro e w2 ⟨A1, cap1, D1, rfl, hD1, hR1, hA1, hL1, hC, hst⟩
  have Z5 := Lib.hid ((H.out.z.grows (by repeat' first | exact Grows.refl _ | refine Grows.more ?_ _ | refine Grows.alloc ?_ _ | refine Grows.drew ?_ | refine Grows.drewN ?_ _)).stepA hC hst)
  clear hC hst hR1 hA1 hL1 hD1
  go_wp2_with fail
  (with_reducible refine (ro_back (Z5.out.b.grows (by repeat' first | exact Grows.refl _ | refine Grows.more ?_ _ | refine Grows.alloc ?_ _ | refine Grows.drew ?_ | refine Grows.drewN ?_ _)) c' n6 HCL.out).mono ?_)
  rintro e w3 ⟨rfl, hC, hst⟩
  have Z6 := Lib.hid ((Z5.out.grows (by repeat' first | exact Grows.refl _ | refine Grows.more ?_ _ | refine Grows.alloc ?_ _ | refine Grows.drew ?_ | refine Grows.drewN ?_ _)).stepB hC hst)
  clear hC hst r0 ig0
  go_wp2_with fail
  refine region_vals [(125, Ex (.int .i64 n6)), (126, Ex (.bool true)), (127, Ex (.bool true)), (128, Ex (undef)), (129, Ex (undef)), (130, Ex (undef)), (131, Ex (undef)), (132, Ex (undef)), (133, Ex (undef)), (134, Ex (undef)), (135, Ex (undef)), (136, Ex (undef)), (137, Ex (undef)), (138, Ex (undef)), (139, Ex (undef)), (140, Ex (undef)), (141, Ex (undef)), (142, Ex (undef)), (143, Ex (undef)), (144, Ex (undef)), (145, Ex (undef)), (146, Ex (undef)), (147, Ex (undef)), (148, Ex (undef)), (149, Ex (undef)), (150, Ex (undef)), (151, Ex (undef)), (152, Ex (undef)), (153, Ex (.bool true)), (6, Ex (.bool true))] (by kernel_rfl) (by kernel_rfl) rfl ?tab ?step ?fin
  case tab => exact tab_of 219 [125, 126, 127, 128, 129, 130, 131, 132, 133, 134, 135, 136, 137, 138, 139, 140, 141, 142, 143, 144, 145, 146, 147, 148, 149, 150, 151, 152, 153, 6] rfl rfl (by decide) (by decide) (stays_cons (Ex.stays _) <| stays_cons (Ex.stays _) <| stays_cons (Ex.stays _) <| stays_cons (Ex.stays _) <| stays_cons (Ex.stays _) <| stays_cons (Ex.stays _) <| stays_cons (Ex.stays _) <| stays_cons (Ex.stays _) <| stays_cons (Ex.stays _) <| stays_cons (Ex.stays _) <| stays_cons (Ex.stays _) <| stays_cons (Ex.stays _) <| stays_cons (Ex.stays _) <| stays_cons (Ex.stays _) <| stays_cons (Ex.stays _) <| stays_cons (Ex.stays _) <| stays_cons (Ex.stays _) <| stays_cons (Ex.stays _) <| stays_cons (Ex.stays _) <| stays_cons (Ex.stays _) <| stays_cons (Ex.stays _) <| stays_cons (Ex.stays _) <| stays_cons (Ex.stays _) <| stays_cons (Ex.stays _) <| stays_cons (Ex.stays _) <| stays_cons (Ex.stays _) <| stays_cons (Ex.stays _) <| stays_cons (Ex.stays _) <| stays_cons (Ex.stays _) <| stays_cons (Ex.stays _) <| stays_nil)
  case step =>
    intro hT i done a' w' hi hJ hr
    have hi : i < 30 := hi
    match i, hi, hr with
    | 0, _, hr =>
      have e12 : a'.eval (.tmp 12) = (.int .i64 n6) := hJ.old 12 rfl (by simp)
      refine hJ.pure_ hT rfl rfl rfl rfl (.int .i64 n6) ?_ rfl
      have ek : ∀ v, a'.eval (.const v) = v := fun _ => rfl
      generalize a'.eval = ev at e12 ek ⊢
      simp [execOp, go_sem, ek, e12] <;> first | omega | (intro hx9; exact absurd hx9 (by omega))
    | 1, _, hr =>
      have e125 : a'.eval (.tmp 125) = (.int .i64 n6) := hJ.ex (j := 0) rfl hr (by kernel_rfl)
      refine hJ.pure_ hT rfl rfl rfl rfl (.bool true) ?_ rfl
      have ek : ∀ v, a'.eval (.const v) = v := fun _ => rfl
      generalize a'.eval = ev at e125 ek ⊢
      simp [execOp, go_sem, ek, e125, he'] <;> first | omega | (intro hx9; exact absurd hx9 (by omega))
    | 2, _, hr =>
      have e126 : a'.eval (.tmp 126) = (.bool true) := hJ.ex (j := 1) rfl hr (by kernel_rfl)
      refine hJ.pure_ hT rfl rfl rfl rfl (.bool true) ?_ rfl
      have ek : ∀ v, a'.eval (.const v) = v := fun _ => rfl
      generalize a'.eval = ev at e126 ek ⊢
      simp [execOp, go_sem, ek, e126] <;> first | omega | (intro hx9; exact absurd hx9 (by omega))
    | 3, _, hr =>
      have e127 : a'.eval (.tmp 127) = (.bool true) := hJ.ex (j := 2) rfl hr (by kernel_rfl)
      exact hJ.skip hT rfl rfl rfl ((wanted_of (k := 2) (b := false) rfl rfl rfl e127).trans (by decide)) rfl
    | 4, _, hr =>
      have e127 : a'.eval (.tmp 127) = (.bool true) := hJ.ex (j := 2) rfl hr (by kernel_rfl)
      exact hJ.skip hT rfl rfl rfl ((wanted_of (k := 2) (b := false) rfl rfl rfl e127).trans (by decide)) rfl
    | 5, _, hr =>
      have e127 : a'.eval (.tmp 127) = (.bool true) := hJ.ex (j := 2) rfl hr (by kernel_rfl)
      exact hJ.skip hT rfl rfl rfl ((wanted_of (k := 2) (b := false) rfl rfl rfl e127).trans (by decide)) rfl
    | 6, _, hr =>
      have e127 : a'.eval (.tmp 127) = (.bool true) := hJ.ex (j := 2) rfl hr (by kernel_rfl)
      exact hJ.skip hT rfl rfl rfl ((wanted_of (k := 2) (b := false) rfl rfl rfl e127).trans (by decide)) rfl
    | 7, _, hr =>
      have e127 : a'.eval (.tmp 127) = (.bool true) := hJ.ex (j := 2) rfl hr (by kernel_rfl)
      exact hJ.skip hT rfl rfl rfl ((wanted_of (k := 2) (b := false) rfl rfl rfl e127).trans (by decide)) rfl
    | 8, _, hr =>
      have e127 : a'.eval (.tmp 127) = (.bool true) := hJ.ex (j := 2) rfl hr (by kernel_rfl)
      exact hJ.skip hT rfl rfl rfl ((wanted_of (k := 2) (b := false) rfl rfl rfl e127).trans (by decide)) rfl
    | 9, _, hr =>
      have e133 : a'.eval (.tmp 133) = (undef) := hJ.ex (j := 8) rfl hr (by kernel_rfl)
      exact hJ.skip hT rfl rfl rfl (wanted_undef (k := 8) (b := true) rfl rfl rfl e133) rfl
    | 10, _, hr =>
      have e133 : a'.eval (.tmp 133) = (undef) := hJ.ex (j := 8) rfl hr (by kernel_rfl)
      exact hJ.skip hT rfl rfl rfl (wanted_undef (k := 8) (b := true) rfl rfl rfl e133) rfl
    | 11, _, hr =>
      have e133 : a'.eval (.tmp 133) = (undef) := hJ.ex (j := 8) rfl hr (by kernel_rfl)
      exact hJ.skip hT rfl rfl rfl (wanted_undef (k := 8) (b := true) rfl rfl rfl e133) rfl
    | 12, _, hr =>
      have e133 : a'.eval (.tmp 133) = (undef) := hJ.ex (j := 8) rfl hr (by kernel_rfl)
      exact hJ.skip hT rfl rfl rfl (wanted_undef (k := 8) (b := true) rfl rfl rfl e133) rfl
    | 13, _, hr =>
      have e133 : a'.eval (.tmp 133) = (undef) := hJ.ex (j := 8) rfl hr (by kernel_rfl)
      exact hJ.skip hT rfl rfl rfl (wanted_undef (k := 8) (b := true) rfl rfl rfl e133) rfl
    | 14, _, hr =>
      have e133 : a'.eval (.tmp 133) = (undef) := hJ.ex (j := 8) rfl hr (by kernel_rfl)
      exact hJ.skip hT rfl rfl rfl (wanted_undef (k := 8) (b := true) rfl rfl rfl e133) rfl
    | 15, _, hr =>
      have e127 : a'.eval (.tmp 127) = (.bool true) := hJ.ex (j := 2) rfl hr (by kernel_rfl)
      exact hJ.skip hT rfl rfl rfl ((wanted_of (k := 2) (b := false) rfl rfl rfl e127).trans (by decide)) rfl
    | 16, _, hr =>
      have e127 : a'.eval (.tmp 127) = (.bool true) := hJ.ex (j := 2) rfl hr (by kernel_rfl)
      exact hJ.skip hT rfl rfl rfl ((wanted_of (k := 2) (b := false) rfl rfl rfl e127).trans (by decide)) rfl
    | 17, _, hr =>
      have e141 : a'.eval (.tmp 141) = (undef) := hJ.ex (j := 16) rfl hr (by kernel_rfl)
      exact hJ.skip hT rfl rfl rfl (wanted_undef (k := 16) (b := true) rfl rfl rfl e141) rfl
    | 18, _, hr =>
      have e141 : a'.eval (.tmp 141) = (undef) := hJ.ex (j := 16) rfl hr (by kernel_rfl)
      exact hJ.skip hT rfl rfl rfl (wanted_undef (k := 16) (b := true) rfl rfl rfl e141) rfl
    | 19, _, hr =>
      have e141 : a'.eval (.tmp 141) = (undef) := hJ.ex (j := 16) rfl hr (by kernel_rfl)
      exact hJ.skip hT rfl rfl rfl (wanted_undef (k := 16) (b := true) rfl rfl rfl e141) rfl
    | 20, _, hr =>
      have e141 : a'.eval (.tmp 141) = (undef) := hJ.ex (j := 16) rfl hr (by kernel_rfl)
      exact hJ.skip hT rfl rfl rfl (wanted_undef (k := 16) (b := true) rfl rfl rfl e141) rfl
    | 21, _, hr =>
      have e141 : a'.eval (.tmp 141) = (undef) := hJ.ex (j := 16) rfl hr (by kernel_rfl)
      exact hJ.skip hT rfl rfl rfl (wanted_undef (k := 16) (b := true) rfl rfl rfl e141) rfl
    | 22, _, hr =>
      have e141 : a'.eval (.tmp 141) = (undef) := hJ.ex (j := 16) rfl hr (by kernel_rfl)
      exact hJ.skip hT rfl rfl rfl (wanted_undef (k := 16) (b := true) rfl rfl rfl e141) rfl
    | 23, _, hr =>
      have e141 : a'.eval (.tmp 141) = (undef) := hJ.ex (j := 16) rfl hr (by kernel_rfl)
      exact hJ.skip hT rfl rfl rfl (wanted_undef (k := 16) (b := true) rfl rfl rfl e141) rfl
    | 24, _, hr =>
      have e141 : a'.eval (.tmp 141) = (undef) := hJ.ex (j := 16) rfl hr (by kernel_rfl)
      exact hJ.skip hT rfl rfl rfl (wanted_undef (k := 16) (b := true) rfl rfl rfl e141) rfl
    | 25, _, hr =>
      have e141 : a'.eval (.tmp 141) = (undef) := hJ.ex (j := 16) rfl hr (by kernel_rfl)
      exact hJ.skip hT rfl rfl rfl (wanted_undef (k := 16) (b := true) rfl rfl rfl e141) rfl
    | 26, _, hr =>
      have e141 : a'.eval (.tmp 141) = (undef) := hJ.ex (j := 16) rfl hr (by kernel_rfl)
      exact hJ.skip hT rfl rfl rfl (wanted_undef (k := 16) (b := true) rfl rfl rfl e141) rfl
    | 27, _, hr =>
      have e127 : a'.eval (.tmp 127) = (.bool true) := hJ.ex (j := 2) rfl hr (by kernel_rfl)
      exact hJ.skip hT rfl rfl rfl ((wanted_of (k := 2) (b := false) rfl rfl rfl e127).trans (by decide)) rfl
    | 28, _, hr =>
      have e127 : a'.eval (.tmp 127) = (.bool true) := hJ.ex (j := 2) rfl hr (by kernel_rfl)
      refine hJ.pure_ hT rfl rfl rfl rfl (.bool true) ?_ rfl
      have ek : ∀ v, a'.eval (.const v) = v := fun _ => rfl
      generalize a'.eval = ev at e127 ek ⊢
      simp [execOp, go_sem, ek, e127] <;> first | omega | (intro hx9; exact absurd hx9 (by omega))
    | 29, _, hr =>
      have e153 : a'.eval (.tmp 153) = (.bool true) := hJ.ex (j := 28) rfl hr (by kernel_rfl)
      refine hJ.pure_ hT rfl rfl rfl rfl (.bool true) ?_ rfl
      have ek : ∀ v, a'.eval (.const v) = v := fun _ => rfl
      generalize a'.eval = ev at e153 ek ⊢
      simp [execOp, go_sem, ek, e153] <;> first | omega | (intro hx9; exact absurd hx9 (by omega))
    | n + 30, hi, _ => exact absurd hi (by omega)
  case fin =>
    intro a' w' _ hdf hg hv ho
    have e4 : a'.eval (.tmp 6) = .bool true := hv 29 6 _ rfl
    have f4 : a'.tmps[6]?.getD undef = .bool true := by simpa [Act.eval] using e4
    clear hv ho e4
    go_wp2_with fail
    refine bodyPost_ret (v := .bool true) (by simp [results, Try.results34, go_sem, f4]) hdf ⟨rfl, ?_⟩
    rw [HCL.out]
    exact ⟨_, _, Z6.out.grows (Grows.trans (by repeat' first | exact Grows.refl _ | refine Grows.more ?_ _ | refine Grows.alloc ?_ _ | refine Grows.drew ?_ | refine Grows.drewN ?_ _) hg)⟩
set_option maxRecDepth 3000 in
set_option maxHeartbeats 2000000 in
theorem does_9 (h : Ahead W K K2 g g2 c s n w) (u : Nat) (hu : s.letter = u) (ht : n % 12 = 9) :
    Calls Try.prog 34 #[.pointer (some ⟨g, 0, none⟩), .pointer (some ⟨g2, 0, none⟩), .agg #[.int .u8 n, .int .i64 s.at_, .int .i64 s.del, .slice s.A s.ins.length s.cap, .int .i64 s.line, .int .u8 s.letter, .string (tx s.text)]] w (Done W g g2 ((coSet c u ⟨[s.text], false⟩).1)) := by
  have t0 : ((n : Int) % 12 == 0) = false := by rw [beq_eq_false_iff_ne]; omega
  have t1 : ((n : Int) % 12 == 1) = false := by rw [beq_eq_false_iff_ne]; omega
  have t2 : ((n : Int) % 12 == 2) = false := by rw [beq_eq_false_iff_ne]; omega
  have t3 : ((n : Int) % 12 == 3) = false := by rw [beq_eq_false_iff_ne]; omega
  have t4 : ((n : Int) % 12 == 4) = false := by rw [beq_eq_false_iff_ne]; omega
  have t5 : ((n : Int) % 12 == 5) = false := by rw [beq_eq_false_iff_ne]; omega
  have t6 : ((n : Int) % 12 == 6) = false := by rw [beq_eq_false_iff_ne]; omega
  have t7 : ((n : Int) % 12 == 7) = false := by rw [beq_eq_false_iff_ne]; omega
  have t8 : ((n : Int) % 12 == 8) = false := by rw [beq_eq_false_iff_ne]; omega
  have t9 : ((n : Int) % 12 == 9) = true := by rw [beq_iff_eq]; omega
  have hn : n < 256 := by have := h.sok.kind; have := h.kind; omega
  have H := Lib.hid h
  have hfr : Hid (∀ {K : Nat → Prop}, (∀ b, K b → b < w.heap.size) → ¬ K w.heap.size) := Lib.hid (fun h1 h2 => Nat.lt_irrefl _ (h1 _ h2))
  have hft : Hid (Rg.fits ⟨[s.text], false⟩) := Lib.hid ⟨by simp, fun t ht => by simp at ht; subst ht; have := h.text; omega⟩
  obtain ⟨p, hp⟩ := h.z.a.rat
  have HP := Lib.hid hp
  obtain ⟨A0, cap0, p2, hS0⟩ := h.z.b.see
  obtain ⟨-, -, -, r29, -⟩ := hS0.five
  have ig0 := hS0.inh
  have u9 : u < 256 := by have := h.sok.letter; omega
  have HU := Lib.hid hu
  have nKg : Hid (¬ K g2) := Lib.hid (h.z.a.out _ h.z.b.own).1
  have nK : Hid (∀ b, K b ∨ K2 b → b < w.heap.size) := Lib.hid (fun b hb => hb.elim (h.z.a.lt b) (h.z.b.lt b))
  clear hS0 hp
  clear h ht hu
  go_enter Try.func34, Try.ntmps34
  go_wp2_with fail
  go_region_held3 (fun w' => w'.cell? ⟨w.heap.size, 5, none⟩ = some (.int .u8 s.letter) ∧ w'.cell? ⟨w.heap.size + 2, 0, none⟩ = some (.slice (some ⟨w.heap.size + 1, 0, none⟩) 1 1) ∧ w'.cell? ⟨w.heap.size + 2, 1, none⟩ = some (.bool false) ∧ w'.cell? ⟨g2, 29, none⟩ = some (.pointer (some ⟨p2, 0, none⟩)))
    (first | (simp [go_sem, ig0, r29]; done) | (simp [go_sem, x5, y0, y1, z29]; done))
    (first
      | (go_at_call 20; (refine Calls.mono (rat_regs (HP.out.grows ?_)) ?_); (repeat' first | exact Grows.refl _ | refine Grows.more ?_ _ | refine Grows.alloc ?_ _ | refine Grows.drew ?_ | refine Grows.drewN ?_ _); rintro e w2 ⟨rfl, hw⟩; have hw := hw.symm; subst hw)
      | (go_at_call 30; (refine Calls.mono (rat_set (okx := fun _ => True) (H.out.z.a.grows ?_) (HP.out.grows ?_) s.letter u HU.out _ 1 1 false ⟨[s.text], false⟩ rfl rfl (lrd_one ?_ trivial) hft.out) ?_); (repeat' first | exact Grows.refl _ | refine Grows.more ?_ _ | refine Grows.alloc ?_ _ | refine Grows.drew ?_ | refine Grows.drewN ?_ _); (focus (simp [go_sem]; done)); rintro e w3 ⟨rfl, hC, hst⟩; have Z5 := Lib.hid ((H.out.z.grows (by repeat' first | exact Grows.refl _ | refine Grows.more ?_ _ | refine Grows.alloc ?_ _ | refine Grows.drew ?_ | refine Grows.drewN ?_ _)).stepA hC hst); have x5 := (hst.cellS w.heap.size 5 (fun h => Nat.lt_irrefl _ (nK.out _ (.inl h))) (by first | (simp; done) | (simp; omega))).trans (show _ = some (.int .u8 s.letter) by simp [go_sem]); have y0 := (hst.cellS (w.heap.size + 2) 0 (fun h => by have := nK.out _ (.inl h); omega) (by first | (simp; done) | (simp; omega))).trans (show _ = some (.slice (some ⟨w.heap.size + 1, 0, none⟩) 1 1) by simp [go_sem]); have y1 := (hst.cellS (w.heap.size + 2) 1 (fun h => by have := nK.out _ (.inl h); omega) (by first | (simp; done) | (simp; omega))).trans (show _ = some (.bool false) by simp [go_sem]); have t0 := (hst.cellS (w.heap.size + 1) 0 (fun h => by have := nK.out _ (.inl h); omega) (by first | (simp; done) | (simp; omega))).trans (show _ = some (.string (tx s.text)) by simp [go_sem]); have z29 := (hst.cellS g2 29 nKg.out (by have : g2 < w.heap.size := ig0; first | (simp; done) | (simp; omega))).trans (show _ = some (.pointer (some ⟨p2, 0, none⟩)) by simp [go_sem, ig0, r29]); have jg : InHeap g2 w3 := World.block_lt_of_cell? _ _ z29; have j5 : InHeap w.heap.size w3 := World.block_lt_of_cell? _ _ x5; have j2 : InHeap (w.heap.size + 2) w3 := World.block_lt_of_cell? _ _ y0; have j1 : InHeap (w.heap.size + 1) w3 := World.block_lt_of_cell? _ _ t0; clear hC hst)
      | (go_at_call 63; (refine Calls.mono (ro_set (okx := fun b => b = w.heap.size + 1) (Z5.out.b.grows ?_) ?_ s.letter u HU.out u9 _ 1 1 false ⟨[s.text], false⟩ rfl rfl (lrd_one ?_ rfl) (fun b e k => ?_) hft.out (coSet c u ⟨[s.text], false⟩).1 (coSet c u ⟨[s.text], false⟩).2 rfl) ?_); (repeat' first | exact Grows.refl _ | refine Grows.more ?_ _ | refine Grows.alloc ?_ _ | refine Grows.drew ?_ | refine Grows.drewN ?_ _); (focus (simp [go_sem, jg, z29]; done)); (focus (simp [go_sem, j1, t0]; done)); (focus (have := nK.out _ (.inr k); omega)); rintro e w4 ⟨rfl, hC, hst, z4⟩; have Z6 := Lib.hid ((Z5.out.grows (by repeat' first | exact Grows.refl _ | refine Grows.more ?_ _ | refine Grows.alloc ?_ _ | refine Grows.drew ?_ | refine Grows.drewN ?_ _)).stepB hC hst); have x5 := (hst.cellS w.heap.size 5 (fun h => Nat.lt_irrefl _ (nK.out _ (.inr h))) (by have := World.block_lt_of_cell? _ _ x5; first | exact this | (simp; omega) | omega)).trans (show _ = some (.int .u8 s.letter) by first | exact x5 | simp [go_sem, x5]); have y1 := (hst.cellS (w.heap.size + 2) 1 (fun h => by have := nK.out _ (.inr h); omega) (by have := World.block_lt_of_cell? _ _ y0; first | exact this | (simp; omega) | omega)).trans (show _ = some (.bool false) by first | exact y1 | simp [go_sem, y1]); have y0 := (hst.cellS (w.heap.size + 2) 0 (fun h => by have := nK.out _ (.inr h); omega) (by have := World.block_lt_of_cell? _ _ y0; first | exact this | (simp; omega) | omega)).trans (show _ = some (.slice (some ⟨w.heap.size + 1, 0, none⟩) 1 1) by first | exact y0 | simp [go_sem, y0]); have z29 := z4; clear hC hst))
  all_goals
    go_wp2_with fail
    go_ret
    exact ⟨rfl, _, _, Z6.out.grows (by repeat' first | exact Grows.refl _ | refine Grows.more ?_ _ | refine Grows.alloc ?_ _ | refine Grows.drew ?_ | refine Grows.drewN ?_ _)⟩
end
end Go.Proofs.Ythanghgfakibnaa
