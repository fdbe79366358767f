/-
  Registers: the law RegsLast: what was laid is what is told, until it is laid anew.
-/
import Derived.Test.YtlhdbaaokgdabaaRegsLastQ
import Derived.IntWalk
namespace Go.Proofs.Ytlhdbaaokgdabaa
open Go.RowKit
attribute [local go_sem ↓] zeroN
theorem sameZ9 {ok : Nat → Prop} (A : Option Addr) (ca : Nat) (w : World) (ha : LRd ok w A ca rg0.d) : Calls Try.prog 16 #[.agg #[.slice A rg0.d.length ca, .bool rg0.whole], .agg #[.slice none 0 0, .bool false]] w fun e w' => e = .returned (.bool true) ∧ Grows w w' := by
  have := sameReg_any A none ca 0 rg0 rg0 w ha (⟨Rd.nil_, by simp [rg0], by simp [rg0], by omega, by simp [rg0]⟩ : LRd (fun _ => True) w none 0 rg0.d) (by simp [rg0]) (by simp [rg0])
  rwa [rsame_self] at this
theorem u8_97 (n : Nat) : IntKind.u8.wrap (97 + (n : Int) % 26) = 97 + (n : Int) % 26 := u8_wrap (by omega) (by omega)
set_option maxRecDepth 20000 in
set_option maxHeartbeats 8000000 in
theorem regsLast_law (lA : Option Addr) (L : List ActC) (lC : Nat) (w : World) (hl : CameActs w lA lC L) :
    Calls Try.prog 4 #[.slice lA L.length lC] w fun e w' => e = .returned (.bool true) ∧ Grows w w' := by
  obtain ⟨i0, hi, hz0, hz1, hz2⟩ := info_parts infoReg
  have hLL := Lib.hid hl
  have hln := hl.len
  clear hl
  cases h1 : bigA L 60 with
  | true =>
    have H1 := Lib.hid h1
    clear h1
    go_enter Try.func4, Try.ntmps4
    go_wp2_with fail
    (with_reducible refine (beyond_any lA lC L 60 60 rfl _ hLL.out (by omega)).mono ?_)
    rw [H1.out]
    rintro e w1 ⟨rfl, rfl⟩
    go_wp2_with fail
    (with_reducible refine (lives_any _).mono ?_)
    rintro e w1 ⟨rfl, m1, rfl⟩
    go_wp2_with fail
    go_ret
    exact ⟨rfl, (by repeat' first | exact Grows.refl _ | refine Grows.more ?_ _ | refine Grows.alloc ?_ _ | refine Grows.drewN ?_ _ | refine Grows.drew ?_)⟩
  | false =>
  have H1 := Lib.hid h1
  have hL60 := Lib.hid (bigA_no h1)
  clear h1
  go_enter Try.func4, Try.ntmps4
  go_wp2_with fail
  (with_reducible refine (beyond_any lA lC L 60 60 rfl _ hLL.out (by omega)).mono ?_)
  rw [H1.out]
  rintro e w1 ⟨rfl, rfl⟩
  go_wp2_with fail
  (with_reducible refine (new_any _).mono ?_)
  rintro e w1 ⟨rfl, rfl⟩
  go_wp2_with fail
  have hLS := Lib.hid (last_start w _ 25 47 rfl)
  generalize ((((w.alloc (.map #[] 0)).alloc (.cells #[.map (some w.heap.size)] 53)).alloc (.cells #[.slice none 0 0, .bool false] 25)).alloc (.cells NZ 47)) = W0 at hLS ⊢
  have hbase := hLS.out.size
  obtain ⟨n, hn⟩ : ∃ x, w.heap.size + 3 = x := ⟨_, rfl⟩
  obtain ⟨l, hl⟩ : ∃ x, w.heap.size + 2 = x := ⟨_, rfl⟩
  obtain ⟨p, hp⟩ : ∃ x, w.heap.size + 1 = x := ⟨_, rfl⟩
  obtain ⟨r, hr⟩ : ∃ x, w.heap.size = x := ⟨_, rfl⟩
  obtain ⟨base, hb⟩ : ∃ x, w.heap.size + 4 = x := ⟨_, rfl⟩
  have HB : Hid (w.heap.size ≤ base) := Lib.hid (by omega)
  rw [hn, hl, hp, hb, hr] at hLS
  rw [hn, hl, hp]
  clear hn hl hp hr hb hbase
  go_loopg [4, 7] L.length (fun q v i wr => ∃ (k : Nat) (S : RS) (ps ns : List RC) (t : RC), q + k = L.length ∧ i = .int .i64 k ∧ Last w base r p l n v wr S ps ns t ∧ Told S (ps.map RC.x) (ns.map RC.x) t.x ∧ ps.length ≤ k)
  case atStart => exact ⟨0, rs0, [], List.replicate 26 rc0, rc0, by omega, rfl, hLS.out, by have := told0; simpa [rc0] using this, by simp⟩
  case round =>
    obtain ⟨wR, hwR⟩ : ∃ z, z = wr := ⟨_, rfl⟩
    subst hwR
    obtain ⟨k, S, ps, ns, t, hq, rfl, hla, hto, hpk⟩ := hrel
    have hQ := Lib.hid hq
    have HL := Lib.hid hla
    have HT := Lib.hid hto
    have hkl : k ≤ L.length := by omega
    obtain ⟨vA, vC, hv⟩ := hla.slice
    subst hv
    clear hla hto hq
    by_cases h1 : k < L.length
    · have hLw := acts_grows hLL.out HL.out.grows
      obtain ⟨b0, o0, hlA, hb0, e0, e1, e2, e3⟩ := hLw.rd.act k h1
      have hb0 : InHeap b0 wR := hb0
      have hact := Lib.hid (hLw.each _ (List.getElem_mem h1))
      have hfx := hL60.out.2 _ (List.getElem_mem h1)
      have hL6 : L.length ≤ 60 := hL60.out.1
      have k0 : (0 : Int) ≤ (k : Int) := by omega
      have k1 : (k : Int) < (L.length : Int) := by omega
      have hu : Hid (RC.ok w ⟨L[k].A, L[k].cap, L[k].x⟩) := Lib.hid (lrd_in (hLL.out.each _ (List.getElem_mem h1)).came)
      have hX : Hid (LRd (fun b => b < w.heap.size) wR L[k].A L[k].cap L[k].x.d) := Lib.hid (hu.out.grows HL.out.grows)
      have hft : Hid (L[k].x.fits) := Lib.hid ⟨by omega, fun s hs => by have := hfx.2 s hs; omega⟩
      obtain ⟨kk, hkk⟩ : ∃ n : Nat, L[k].kind = n := ⟨L[k].kind.toNat, by have := hact.out.kind; omega⟩
      obtain ⟨c, hc⟩ : ∃ c : Nat, L[k].letter = c := ⟨L[k].letter.toNat, by have := hact.out.letter; omega⟩
      have hc255 : Hid (c ≤ 255 ∧ kk ≤ 255) := Lib.hid (by have := hact.out.letter; have := hact.out.kind; omega)
      rw [hkk] at e0
      rw [hc] at e1
      subst hlA
      have hbl := HL.out.blocks
      have hsz := HL.out.size
      have nok : Hid (∀ b, wR.heap.size ≤ b → okL r l n (.slice vA ps.length vC) b) := Lib.hid (fun b hb => ⟨by omega, by omega, by omega, fun e => by have := (HL.out.own.lt b e).2; omega⟩)
      have nr : Hid (¬ okL r l n (.slice vA ps.length vC) r) := Lib.hid (fun h => h.1 rfl)
      have nx : ¬ wR.heap.size = r := by omega
      have nb : Hid (∀ b, b < w.heap.size → ¬ b = r) := Lib.hid (fun b h => by omega)
      obtain ⟨j, hj⟩ : ∃ j : Nat, c % 26 = j := ⟨_, rfl⟩
      have hj26 : j < 26 := by omega
      have hjc2 : (c : Int) % 26 = (j : Int) := by omega
      have wj : IntKind.u8.wrap (97 + (j : Int)) = 97 + (j : Int) := u8_wrap (by omega) (by omega)
      have wj2 : IntKind.u8.wrap (97 + (j : Int) - 97) = (j : Int) := by rw [show 97 + (j : Int) - 97 = j by omega]; exact u8_wrap (by omega) (by omega)
      have hjn : 97 + (j : Int) = ((97 + j : Nat) : Int) := by omega
      have HJ := Lib.hid hjn
      clear hLw hfx hkk hc hbl hsz hj hjn
      obtain ⟨gO, hgO⟩ : ∃ z, z = gk := ⟨_, rfl⟩
      go_upto_if 40 with fail
      go_cut [4] (fun v wx => ∃ (S : RS) (ps ns : List RC) (t : RC), Last w base r p l n v wx S ps ns t ∧ Told S (ps.map RC.x) (ns.map RC.x) t.x ∧ ps.length ≤ k + 1)
      case first =>
        by_cases t0 : kk % 3 = 0
        · have t0' : ((kk : Int) % 3 == 0) = true := by rw [beq_iff_eq]; omega
          clear t0
          cases hck : rcheck L[k].x with
          | true =>
            have hy := Lib.hid (rpush_ok (S := S) hck)
            have hT2 := Lib.hid (HT.out.push L[k].x)
            generalize hS2 : rsSet (rsSet (rshifts S 8) 49 L[k].x) 0 L[k].x = S2 at hy hT2
            clear hS2 hck
            go_wp2_with fail
            with_reducible refine Calls.mono (push_eq (ok := okL r l n (.slice vA ps.length vC)) (okx := fun b => b < w.heap.size) p r S S2 0 L[k].A _ L[k].cap _ L[k].x hy.out rfl rfl _ (HL.out.regs.grows (by repeat' first | exact Grows.refl _ | refine Grows.more ?_ _ | refine Grows.alloc ?_ _ | refine Grows.drewN ?_ _ | refine Grows.drew ?_)) (hX.out.grows (by repeat' first | exact Grows.refl _ | refine Grows.more ?_ _ | refine Grows.alloc ?_ _ | refine Grows.drewN ?_ _ | refine Grows.drew ?_)) hft.out ?_ nr.out nb.out) ?_
            · intro b h; exact nok.out b (by first | exact h | (simp at h; omega))
            rintro e w4 ⟨rfl, hc4, hr4⟩
            have hc34 : Chg (fun b => b = r) wR w4 := (Chg.of_grows (by repeat' first | exact Grows.refl _ | refine Grows.more ?_ _ | refine Grows.alloc ?_ _ | refine Grows.drewN ?_ _ | refine Grows.drew ?_)).trans hc4
            have hcX : Chg (fun b => b = r) (wR.alloc (.cells #[.int .u8 kk, .int .u8 c, .slice L[k].A L[k].x.d.length L[k].cap, .bool L[k].x.whole] 37)) w4 := hc4
            have x2 := (hcX.cell (a := ⟨wR.heap.size, 2, none⟩) (by simp) nx).trans (by simp [go_sem] : _ = some (Value.slice L[k].A L[k].x.d.length L[k].cap))
            have x3 := (hcX.cell (a := ⟨wR.heap.size, 3, none⟩) (by simp) nx).trans (by simp [go_sem] : _ = some (Value.bool L[k].x.whole))
            have ix4 : InHeap (wR.heap.size) w4 := by have := hcX.size; simp at this; unfold InHeap; omega
            have HL4 := Lib.hid (HL.out.laid hc34 hr4)
            have hps : ps.length + 1 ≤ maxLen := by unfold maxLen; omega
            have hps2 : (ps.length + 1) * 32 ≤ 140737488355328 := by omega
            have hbs : Hid (base ≤ w4.heap.size) := Lib.hid HL4.out.size
            have hnv : Hid (∀ g, (Value.slice vA ps.length vC).ownBlock = some g → g < wR.heap.size) := Lib.hid (fun g h => (HL.out.own.lt g h).2)
            clear hc4 hr4 hc34 hcX
            go_wp2_with (at_builtin; refine wpList_append2L _ rfl (.tmp 46) (.tmp 49) 46 rfl base 25 i0 rz 32 Try.underlying46 hi hz0 hz1 hz2 rfl (.slice vA ps.length vC) ps.length (ps.flatMap RC.cells) rfl (HL4.out.own.alloc _) w4.heap.size 0 (.slice L[k].A L[k].x.d.length L[k].cap) (.bool L[k].x.whole) rfl ?c1 ?c2 ⟨rfl, rfl⟩ hps hps2 ?c3 ?_)
            case c1 => simp [go_sem]
            case c2 => simp [go_sem]
            case c3 => have := hbs.out; simp; omega
            intro g cap w5 hown hgr hlie
            have HL5 := Lib.hid (HL4.out.push (u := ⟨L[k].A, L[k].cap, L[k].x⟩) hu.out hown hgr ⟨g, rfl, hlie.imp id (fun e => by simpa using e)⟩)
            have hcY := Chg.of_grown hgr
            have hxY : ¬ (Value.slice vA ps.length vC).ownBlock = some wR.heap.size := fun e => by have := hnv.out _ e; omega
            have y2 := (hcY.cell (a := ⟨wR.heap.size, 2, none⟩) (by simp; have : wR.heap.size < w4.heap.size := ix4; omega) hxY).trans (by simp [go_sem, ix4, x2] : _ = some (Value.slice L[k].A L[k].x.d.length L[k].cap))
            have y3 := (hcY.cell (a := ⟨wR.heap.size, 3, none⟩) (by simp; have : wR.heap.size < w4.heap.size := ix4; omega) hxY).trans (by simp [go_sem, ix4, x3] : _ = some (Value.bool L[k].x.whole))
            have l0 := HL5.out.l0
            have l1 := HL5.out.l1
            have f0 := HL5.out.lf 0
            have f1 := HL5.out.lf 1
            clear hown hgr hlie hcY x2 x3
            go_wp2_with fail
            go_meet
            case rel => exact ⟨S2, ps ++ [⟨L[k].A, L[k].cap, L[k].x⟩], ns, ⟨L[k].A, L[k].cap, L[k].x⟩, by simpa using HL5.out.setL hu.out, by simpa using hT2.out, by simp; omega⟩
          | false =>
            have hy := Lib.hid (rpush_bad (S := S) hck)
            clear hck
            go_wp2_with fail
            with_reducible refine Calls.mono (push_eq (ok := okL r l n (.slice vA ps.length vC)) (okx := fun b => b < w.heap.size) p r S S 2 L[k].A _ L[k].cap _ L[k].x hy.out rfl rfl _ (HL.out.regs.grows (by repeat' first | exact Grows.refl _ | refine Grows.more ?_ _ | refine Grows.alloc ?_ _ | refine Grows.drewN ?_ _ | refine Grows.drew ?_)) (hX.out.grows (by repeat' first | exact Grows.refl _ | refine Grows.more ?_ _ | refine Grows.alloc ?_ _ | refine Grows.drewN ?_ _ | refine Grows.drew ?_)) hft.out ?_ nr.out nb.out) ?_
            · intro b h; exact nok.out b (by first | exact h | (simp at h; omega))
            rintro e w4 ⟨rfl, hc4, hr4⟩
            have hc34 : Chg (fun b => b = r) wR w4 := (Chg.of_grows (by repeat' first | exact Grows.refl _ | refine Grows.more ?_ _ | refine Grows.alloc ?_ _ | refine Grows.drewN ?_ _ | refine Grows.drew ?_)).trans hc4
            have HL4 := Lib.hid (HL.out.laid hc34 hr4)
            clear hc4 hr4 hc34
            go_wp2_with fail
            go_meet
            case rel => exact ⟨S, ps, ns, t, HL4.out, HT.out, by omega⟩
        · have t0' : ((kk : Int) % 3 == 0) = false := by rw [beq_eq_false_iff_ne]; omega
          clear t0
          cases hck : rcheck L[k].x with
          | true =>
            have hy := Lib.hid (rset_low (S := S) j hj26 hck)
            have hT2 := Lib.hid (HT.out.set j hj26 L[k].x)
            generalize hS2 : rsSet (rsSet S (97 + (j : Int)) L[k].x) 0 L[k].x = S2 at hy hT2
            clear hS2 hck
            go_wp2_with fail
            with_reducible refine Calls.mono (set_eq (ok := okL r l n (.slice vA ps.length vC)) (okx := fun b => b < w.heap.size) p r S S2 0 _ (97 + j) HJ.out L[k].A _ L[k].cap _ L[k].x hy.out rfl rfl _ (HL.out.regs.grows (by repeat' first | exact Grows.refl _ | refine Grows.more ?_ _ | refine Grows.alloc ?_ _ | refine Grows.drewN ?_ _ | refine Grows.drew ?_)) (hX.out.grows (by repeat' first | exact Grows.refl _ | refine Grows.more ?_ _ | refine Grows.alloc ?_ _ | refine Grows.drewN ?_ _ | refine Grows.drew ?_)) hft.out ?_ nr.out) ?_
            · intro b h; exact nok.out b (by first | exact h | (simp at h; omega))
            rintro e w4 ⟨rfl, hc4, hr4⟩
            have hc34 : Chg (fun b => b = r) wR w4 := (Chg.of_grows (by repeat' first | exact Grows.refl _ | refine Grows.more ?_ _ | refine Grows.alloc ?_ _ | refine Grows.drewN ?_ _ | refine Grows.drew ?_)).trans hc4
            have hcX : Chg (fun b => b = r) (wR.alloc (.cells #[.int .u8 kk, .int .u8 c, .slice L[k].A L[k].x.d.length L[k].cap, .bool L[k].x.whole] 37)) w4 := hc4
            have x2 := (hcX.cell (a := ⟨wR.heap.size, 2, none⟩) (by simp) nx).trans (by simp [go_sem] : _ = some (Value.slice L[k].A L[k].x.d.length L[k].cap))
            have x3 := (hcX.cell (a := ⟨wR.heap.size, 3, none⟩) (by simp) nx).trans (by simp [go_sem] : _ = some (Value.bool L[k].x.whole))
            have ix4 : InHeap (wR.heap.size) w4 := by have := hcX.size; simp at this; unfold InHeap; omega
            have HL4 := Lib.hid (HL.out.laid hc34 hr4)
            have j0 : (0 : Int) ≤ (j : Int) := by omega
            have j1 : (j : Int) < 26 := by omega
            have hln4 := Lib.hid HL4.out.len
            have l0 := HL4.out.n0 j (by have := hln4.out; omega)
            have l1 := HL4.out.n1 j (by have := hln4.out; omega)
            have f0 := HL4.out.nf (j * 2)
            have f1 := HL4.out.nf (j * 2 + 1)
            have HL5 := Lib.hid (HL4.out.setN (u := ⟨L[k].A, L[k].cap, L[k].x⟩) hu.out j hj26)
            have m0 := HL5.out.l0
            have m1 := HL5.out.l1
            have g0 := HL5.out.lf 0
            have g1 := HL5.out.lf 1
            have hbn : Hid (¬ n = wR.heap.size ∧ ¬ l = wR.heap.size) := Lib.hid (by have := HL.out.blocks; have := HL.out.size; omega)
            have nxn : ¬ n = wR.heap.size := hbn.out.1
            have nxl : ¬ l = wR.heap.size := hbn.out.2
            clear hc4 hr4 hc34 hcX
            go_wp2_with fail
            go_meet
            case rel => exact ⟨S2, ps, ns.set j ⟨L[k].A, L[k].cap, L[k].x⟩, ⟨L[k].A, L[k].cap, L[k].x⟩, HL5.out.setL hu.out, by simpa [List.map_set] using hT2.out, by omega⟩
          | false =>
            have hy := Lib.hid (rset_bad (S := S) (97 + (j : Int)) hck)
            clear hck
            go_wp2_with fail
            with_reducible refine Calls.mono (set_eq (ok := okL r l n (.slice vA ps.length vC)) (okx := fun b => b < w.heap.size) p r S S 2 _ (97 + j) HJ.out L[k].A _ L[k].cap _ L[k].x hy.out rfl rfl _ (HL.out.regs.grows (by repeat' first | exact Grows.refl _ | refine Grows.more ?_ _ | refine Grows.alloc ?_ _ | refine Grows.drewN ?_ _ | refine Grows.drew ?_)) (hX.out.grows (by repeat' first | exact Grows.refl _ | refine Grows.more ?_ _ | refine Grows.alloc ?_ _ | refine Grows.drewN ?_ _ | refine Grows.drew ?_)) hft.out ?_ nr.out) ?_
            · intro b h; exact nok.out b (by first | exact h | (simp at h; omega))
            rintro e w4 ⟨rfl, hc4, hr4⟩
            have hc34 : Chg (fun b => b = r) wR w4 := (Chg.of_grows (by repeat' first | exact Grows.refl _ | refine Grows.more ?_ _ | refine Grows.alloc ?_ _ | refine Grows.drewN ?_ _ | refine Grows.drew ?_)).trans hc4
            have HL4 := Lib.hid (HL.out.laid hc34 hr4)
            clear hc4 hr4 hc34
            go_wp2_with fail
            go_meet
            case rel => exact ⟨S, ps, ns, t, HL4.out, HT.out, by omega⟩
      case rest =>
        obtain ⟨S9, ps9, ns9, t9, hla, hto, hpk9⟩ := hcut
        obtain ⟨wC, hwC⟩ : ∃ z, z = wc := ⟨_, rfl⟩
        subst hwC
        have HL9 := Lib.hid hla
        have HT9 := Lib.hid hto
        have hln9 := hla.len
        obtain ⟨vB, vD, hv⟩ := hla.slice
        subst hv
        have ip : Hid (∀ u : RC, u.ok w → u.x.d.length ≤ 1000000 → True) := Lib.hid (fun _ _ _ => trivial)
        have hgood := HL9.out.regs.good
        have hdl : Hid (∀ c, ((S9 c).getD rg0).d.length ≤ 1000000) := Lib.hid (fun c => by have := (hgood.getD c).1; omega)
        clear hla hto hgood e0 e1 e2 e3 ip
        go_wp2_with fail
        go_loopg [10] 26 (fun q i wy => ∃ (j : Nat), q + j = 26 ∧ i = .int .i64 j ∧ Grows wC wy)
        case atStart => exact ⟨0, by omega, rfl, Grows.refl _⟩
        case round =>
          obtain ⟨wy, hwy⟩ : ∃ z, z = wr := ⟨_, rfl⟩
          subst hwy
          obtain ⟨j, hq2, rfl, hgy⟩ := hrel
          have hQ2 := Lib.hid hq2
          have HG := Lib.hid hgy
          have hjl : j ≤ 26 := by omega
          clear hgy hq2
          by_cases h2 : j < 26
          · obtain ⟨e9, he9⟩ := rget_at S9 (97 + (j : Int)) (by omega)
            have hnm := HT9.out.named j h2
            rw [List.getElem_map] at hnm
            have hjn9 : j < ns9.length := by omega
            have hle : Hid ((ns9[j]'hjn9).x.d.length ≤ 1000000) := Lib.hid (by rw [← hnm]; exact hdl.out _)
            rw [hnm] at he9
            have HE9 := Lib.hid he9
            have hJ9 : Hid (97 + (j : Int) = ((97 + j : Nat) : Int)) := Lib.hid (by omega)
            have hin := HL9.out.grow HG.out
            have n0 := hin.n0 j hjn9
            have n1 := hin.n1 j hjn9
            have inn : InHeap n wy := by have := hin.size; have := hin.blocks; unfold InHeap; omega
            have hok9 : Hid (RC.ok w ns9[j]) := Lib.hid (hin.nok _ (List.getElem_mem hjn9))
            have hgw := Lib.hid hin.grows
            have j0 : (0 : Int) ≤ (j : Int) := by omega
            have j1 : (j : Int) < 26 := by omega
            have wj9 : IntKind.u8.wrap (97 + (j : Int)) = 97 + (j : Int) := u8_wrap (by omega) (by omega)
            have wi9 : IntKind.i64.wrap (97 + (j : Int)) = 97 + (j : Int) := IntWalk.i64_in _ (by omega)
            clear he9 hnm hin
            go_wp2_with fail
            (with_reducible refine (get_lit p r S9 _ (97 + j) hJ9.out _ (HL9.out.regs.grows HG.out) (ns9[j]'hjn9).x e9 HE9.out).mono ?_)
            rintro e w1 ⟨A1, c1, rfl, hL1, m1, rfl⟩
            have hL1 := Lib.hid hL1
            go_wp2_with fail
            go_region_held3 (fun w' => w'.cell? ⟨wy.heap.size + m1.bs.size, 0, none⟩ = some (.slice A1 (ns9[j]'hjn9).x.d.length c1) ∧ w'.cell? ⟨wy.heap.size + m1.bs.size, 1, none⟩ = some (.bool (ns9[j]'hjn9).x.whole) ∧ w'.cell? ⟨n, j * 2, none⟩ = some (.slice (ns9[j]'hjn9).A (ns9[j]'hjn9).x.d.length (ns9[j]'hjn9).cap) ∧ w'.cell? ⟨n, j * 2 + 1, none⟩ = some (.bool (ns9[j]'hjn9).x.whole))
              (first | (simp [go_sem, inn, n0, n1]; done))
              (first | (go_at_call 16; (refine Calls.mono (same_lit' (ns9[j]'hjn9).x A1 _ c1 _ _ (hL1.out.grows ?_) ((LRd.grows hok9.out hgw.out).grows ?_) hle.out) ?_); (repeat' first | exact Grows.refl _ | refine Grows.more ?_ _ | refine Grows.alloc ?_ _ | refine Grows.drew ?_); rintro e w2 ⟨rfl, m2, rfl⟩))
            go_wp2_with fail
            go_roundg (gk - 1)
            case measure => have := hQ2.out; omega
            case rel => exact ⟨j + 1, by have := hQ2.out; omega, by go_num, HG.out.trans (by repeat' first | exact Grows.refl _ | refine Grows.more ?_ _ | refine Grows.alloc ?_ _ | refine Grows.drewN ?_ _ | refine Grows.drew ?_)⟩
          · have hG26 := Lib.hid HG.out
            go_wp2_with fail
            go_loopg [13] 9 (fun q i wz => ∃ (m : Nat), q + m = 10 ∧ 1 ≤ m ∧ i = .int .i64 m ∧ Grows wC wz)
            case atStart => exact ⟨1, by omega, by omega, rfl, hG26.out⟩
            case round =>
              obtain ⟨wz, hwz⟩ : ∃ z, z = wr := ⟨_, rfl⟩
              subst hwz
              obtain ⟨m, hq2, hm1, rfl, hgy⟩ := hrel
              have hQ2 := Lib.hid hq2
              have HG := Lib.hid hgy
              have hml : m ≤ 10 := by omega
              clear hgy hq2
              by_cases h3 : m ≤ 9
              · have hnums := HT9.out.nums m hm1 h3
                have hJ9 : Hid (48 + (m : Int) = ((48 + m : Nat) : Int)) := Lib.hid (by omega)
                obtain ⟨e9, he9⟩ := rget_at S9 (48 + (m : Int)) (by omega)
                have wj9 : IntKind.u8.wrap (48 + (m : Int)) = 48 + (m : Int) := u8_wrap (by omega) (by omega)
                have wi9 : IntKind.i64.wrap (48 + (m : Int)) = 48 + (m : Int) := IntWalk.i64_in _ (by omega)
                have m9 : (m : Int) ≤ 9 := by omega
                have hin := HL9.out.grow HG.out
                have hgw := Lib.hid hin.grows
                by_cases h4 : m ≤ ps9.length
                · obtain ⟨d, hd⟩ : ∃ d, ps9.length - m = d := ⟨_, rfl⟩
                  have hd1 : d < ps9.length := by omega
                  obtain ⟨g9, c9, hv9, hg9, q0, q1⟩ := hin.at_ d hd1
                  injection hv9 with hv9 _ hv8
                  subst hv9 hv8
                  have ig9 : InHeap g9 wz := hg9
                  rw [dif_pos ⟨by simpa using h4, hm1⟩] at hnums
                  have hnums2 : S9 (48 + (m : Int)) = some (ps9[d]'hd1).x := by rw [hnums, List.getElem_map]; simp [hd]
                  rw [hnums2, Option.getD_some] at he9
                  have HE9 := Lib.hid he9
                  have hle : Hid ((ps9[d]'hd1).x.d.length ≤ 1000000) := Lib.hid (by have := hdl.out (48 + (m : Int)); rwa [hnums2] at this)
                  have hok9 : Hid (LRd (fun b => b < w.heap.size) w (ps9[d]'hd1).A (ps9[d]'hd1).cap (ps9[d]'hd1).x.d) := Lib.hid (hin.pok _ (List.getElem_mem hd1))
                  have h4i : (m : Int) ≤ (ps9.length : Int) := by omega
                  have hdi : (ps9.length : Int) - (m : Int) = (d : Int) := by omega
                  have hd0 : (0 : Int) ≤ (d : Int) := by omega
                  have hd2 : (d : Int) < (ps9.length : Int) := by omega
                  clear he9 hnums hnums2 hin hd
                  go_wp2_with fail
                  (with_reducible refine (get_lit p r S9 _ (48 + m) hJ9.out _ (HL9.out.regs.grows HG.out) (ps9[d]'hd1).x e9 HE9.out).mono ?_)
                  rintro e w1 ⟨A1, c1, rfl, hL1, m1, rfl⟩
                  have hL1 := Lib.hid hL1
                  go_wp2_with fail
                  (with_reducible refine (same_lit' (ps9[d]'hd1).x A1 _ c1 _ _ (hL1.out.grows (by repeat' first | exact Grows.refl _ | refine Grows.more ?_ _ | refine Grows.alloc ?_ _ | refine Grows.drewN ?_ _ | refine Grows.drew ?_)) ((LRd.grows hok9.out hgw.out).grows (by repeat' first | exact Grows.refl _ | refine Grows.more ?_ _ | refine Grows.alloc ?_ _ | refine Grows.drewN ?_ _ | refine Grows.drew ?_)) hle.out).mono ?_)
                  rintro e w2 ⟨rfl, m2, rfl⟩
                  go_wp2_with fail
                  go_roundg (gk - 1)
                  case measure => have := hQ2.out; omega
                  case rel => exact ⟨m + 1, by have := hQ2.out; omega, by omega, by go_num, HG.out.trans (by repeat' first | exact Grows.refl _ | refine Grows.more ?_ _ | refine Grows.alloc ?_ _ | refine Grows.drewN ?_ _ | refine Grows.drew ?_)⟩
                · rw [dif_neg (fun h => h4 (by simpa using h.1))] at hnums
                  rw [hnums, Option.getD_none] at he9
                  have HE9 := Lib.hid he9
                  have h4i : ¬ (m : Int) ≤ (ps9.length : Int) := by omega
                  clear he9 hnums hin
                  go_wp2_with fail
                  (with_reducible refine (get_lit p r S9 _ (48 + m) hJ9.out _ (HL9.out.regs.grows HG.out) rg0 e9 HE9.out).mono ?_)
                  rintro e w1 ⟨A1, c1, rfl, hL1, m1, rfl⟩
                  have hL1 := Lib.hid hL1
                  go_wp2_with fail
                  (with_reducible refine (sameZ9 A1 c1 _ (hL1.out.grows (by repeat' first | exact Grows.refl _ | refine Grows.more ?_ _ | refine Grows.alloc ?_ _ | refine Grows.drewN ?_ _ | refine Grows.drew ?_))).mono ?_)
                  rintro e w2 ⟨rfl, m2, rfl⟩
                  go_wp2_with fail
                  go_roundg (gk - 1)
                  case measure => have := hQ2.out; omega
                  case rel => exact ⟨m + 1, by have := hQ2.out; omega, by omega, by go_num, HG.out.trans (by repeat' first | exact Grows.refl _ | refine Grows.more ?_ _ | refine Grows.alloc ?_ _ | refine Grows.drewN ?_ _ | refine Grows.drew ?_)⟩
              · have hlast := HT9.out.last
                obtain ⟨e9, he9⟩ := rget_at S9 0 (by omega)
                rw [hlast] at he9
                have HE9 := Lib.hid he9
                have hle : Hid (t9.x.d.length ≤ 1000000) := Lib.hid (by rw [← hlast]; exact hdl.out 0)
                have hin := HL9.out.grow HG.out
                have l0 := hin.l0
                have l1 := hin.l1
                have inl : InHeap l wz := by have := hin.size; have := hin.blocks; unfold InHeap; omega
                have hok9 : Hid (LRd (fun b => b < w.heap.size) w t9.A t9.cap t9.x.d) := Lib.hid hin.tok
                have hgw := Lib.hid hin.grows
                clear he9 hlast hin
                go_wp2_with fail
                (with_reducible refine (get_lit p r S9 0 0 rfl _ (HL9.out.regs.grows HG.out) t9.x e9 HE9.out).mono ?_)
                rintro e w1 ⟨A1, c1, rfl, hL1, m1, rfl⟩
                have hL1 := Lib.hid hL1
                go_wp2_with fail
                (with_reducible refine (same_lit' t9.x A1 _ c1 _ _ (hL1.out.grows (by repeat' first | exact Grows.refl _ | refine Grows.more ?_ _ | refine Grows.alloc ?_ _ | refine Grows.drewN ?_ _ | refine Grows.drew ?_)) ((LRd.grows hok9.out hgw.out).grows (by repeat' first | exact Grows.refl _ | refine Grows.more ?_ _ | refine Grows.alloc ?_ _ | refine Grows.drewN ?_ _ | refine Grows.drew ?_)) hle.out).mono ?_)
                rintro e w2 ⟨rfl, m2, rfl⟩
                go_wp2_with fail
                go_roundg (gO - 1)
                case measure => have := hQ.out; omega
                case rel => exact ⟨k + 1, S9, ps9, ns9, t9, by have := hQ.out; omega, by go_num, HL9.out.grow (HG.out.trans (by repeat' first | exact Grows.refl _ | refine Grows.more ?_ _ | refine Grows.alloc ?_ _ | refine Grows.drewN ?_ _ | refine Grows.drew ?_)), HT9.out, hpk9⟩
    · have hG : Hid (Grows w wR) := Lib.hid HL.out.grows
      go_wp2_with fail
      (with_reducible refine (lives_any _).mono ?_)
      rintro e w1 ⟨rfl, m1, rfl⟩
      go_wp2_with fail
      go_ret
      exact ⟨rfl, hG.out.trans (by repeat' first | exact Grows.refl _ | refine Grows.more ?_ _ | refine Grows.alloc ?_ _ | refine Grows.drewN ?_ _ | refine Grows.drew ?_)⟩
end Go.Proofs.Ytlhdbaaokgdabaa
