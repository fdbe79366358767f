/-
  Several texts of the proof: MatH, MatI.
-/
import Derived.Test.YtkomggeionofbaaGreatDoorPk29
set_option linter.unusedSimpArgs false
set_option linter.unusedVariables false
/-
  Matches: what is asked of a place, walked.
-/
namespace Go.Proofs.YtkomggeionofbaaGreatDoor
open Go.RowKit

set_option maxRecDepth 3000 in
/-- The slice of numbered nodes behind some of them. -/
theorem NfAt.drop {ok : Nat → Prop} {w : World} {b o cap m : Nat} {a c : Fr} (h : NfAt ok w (some ⟨b, o, none⟩) cap (a.app c) m) (A : Option Addr) (hA : 0 < c.len → A = some ⟨b, o + a.len * 264, none⟩) (hne : A ≠ none) : NfAt ok w A (cap - a.len) c (m + a.size) := by
  obtain ⟨xs, h1, h2⟩ := h
  have hsplit : ∀ {a : Fr} {m : Nat} {xs : List Value}, NfRow ok w (a.app c) m xs → ∃ ys zs, xs = ys ++ zs ∧ ys.length = a.len * 264 ∧ NfRow ok w c (m + a.size) zs := by
    intro a
    induction a with
    | nil => intro m xs h; exact ⟨[], xs, rfl, by simp [Fr.len], h⟩
    | cons x k r _ ihr =>
      rintro m xs ⟨KA, kn, kc, K, capk, us, zs, e, h1, h2, h3⟩
      obtain ⟨ys, zs2, e2, hl, h4⟩ := ihr h3
      refine ⟨(nmC x (.slice KA kn kc) m (.slice K k.len capk)).toList ++ ys, zs2, by rw [e, e2, List.append_assoc], ?_, ?_⟩
      · rw [List.length_append, Array.length_toList, nmC_size, hl, Fr.len]; omega
      · rw [show m + (Fr.cons x k r).size = m + 1 + k.size + r.size by simp [Fr.size]; omega]; exact h4
  obtain ⟨ys, zs, e, hl, h3⟩ := hsplit h2
  have hlen := h1.rd.1
  have hle := h1.le
  rw [Fr.len_app] at hlen hle
  refine ⟨zs, ⟨⟨?_, fun hc => ?_⟩, fun e => absurd e hne, by omega, by have := h1.cap63; omega, fun hc a2 e2 => ?_⟩, h3⟩
  · rw [e, List.length_append, hl] at hlen
    have : (a.len + c.len) * 264 = a.len * 264 + c.len * 264 := Nat.add_mul _ _ _
    omega
  · obtain ⟨b', o', e2, hb, hcell⟩ := h1.rd.2 (by rw [Fr.len_app]; omega)
    cases e2
    refine ⟨b, o + a.len * 264, hA hc, hb, fun j u hu => ?_⟩
    rw [Nat.add_assoc]
    refine hcell (a.len * 264 + j) u ?_
    rw [e, List.getElem?_append_right (by omega), hl, Nat.add_sub_cancel_left]
    exact hu
  · have := hA hc
    rw [this] at e2
    cases e2
    exact h1.ok (by rw [Fr.len_app]; omega) ⟨b, o, none⟩ rfl
section
variable {s : List UInt8} {Nm : Nat → NdV → Fr → Prop} {tb r lo : Nat}
set_option maxRecDepth 3000 in
theorem row_drew {f : Fr} (h : RowC s Nm tb r lo f) (m : Nat) (A : Option Addr) (cap a : Nat) {q : Nat → Prop} {w w0 : World} (hall : AllNum Nm f m) (hnf : NfAt (fun b => b < lo) w A cap f m) (ht : TbAt s Nm tb r lo q w) (hq : ∀ b, w.heap.size ≤ b → q b) (ha : a ≤ s.length) (hg : Grows w w0) :
    Calls Tryz.prog 58 #[.pointer (some ⟨tb, 0, none⟩), .slice A f.len cap, .int .i64 a] w0 fun e w' => ∃ b, e = .returned (plV b (wds s.length)) ∧ PlAt w' b (wds s.length) (endsF s f a) ∧ w.heap.size ≤ b ∧ TbAt s Nm tb r lo q w' ∧ Chg (fun x => x = r) w w' :=
  (h m A cap a q w0 hall (hnf.chg (Chg.of_grows (p := fun _ => False) hg) fun _ _ _ h => h) (ht.grows hg) (fun b hb => hq b (Nat.le_trans hg.below.size hb)) ha).mono fun e w' ⟨b, h1, h2, h3, h4, h5⟩ => ⟨b, h1, h2, Nat.le_trans hg.below.size h3, h4, (Chg.of_grows hg).trans h5⟩
set_option maxRecDepth 3000 in
theorem mhas_drew {w w0 : World} {b W : Nat} {P : Pl} (h : PlAt w b W P) (a : Nat) (ha : a < 64 * W) (hW : W ≤ 1000) (hg : Grows w w0) :
    Calls Tryz.prog 88 #[plV b W, .int .i64 a] w0 fun e w' => e = .returned (.bool (P a)) ∧ w' = w0 := has_any (h.grows hg) a ha hW
set_option maxRecDepth 3000 in
theorem enters_give1 : Enters 87 := enters_of Tryz.func87 (by kernel_rfl) rfl
set_option maxRecDepth 3000 in
theorem enters_within1 : Enters 110 := enters_of Tryz.func110 (by kernel_rfl) rfl
attribute [local go_sem ↓] zeroNm ldNm_eq stNm_eq
attribute [local go_sem] loadNm loadNm_if storeNm storeNm_if nm_one_nd nm_size_nd over_nm span_nm
set_option maxRecDepth 100000 in
set_option maxHeartbeats 4000000 in
theorem give1_any (hs : s.length ≤ 60000) (hN : NumOk Nm) {f a1 k rest : Fr} {x : NdV} (m b0 o0 cap i e p : Nat) (hf : f = a1.app (.cons x k rest)) (hi : a1.len = i) (q : Nat → Prop) (w : World) {bT bL bI bE : Nat}
    (hT : blk w bT = #[.pointer (some ⟨tb, 0, none⟩)]) (hL : blk w bL = #[.slice (some ⟨b0, o0, none⟩) f.len cap]) (hI : blk w bI = #[.int .i64 i]) (hE : blk w bE = #[.int .i64 e])
    (hall : AllNum Nm f m) (hnf : NfAt (fun b => b < lo) w (some ⟨b0, o0, none⟩) cap f m) (ht : TbAt s Nm tb r lo q w) (hq : ∀ b, w.heap.size ≤ b → q b) (hp : p ≤ s.length) (he : e ≤ s.length) (hEr : bE ≠ r) :
    Calls Tryz.prog 87 #[.int .i64 p, .pointer (some ⟨bT, 0, none⟩), .pointer (some ⟨bL, 0, none⟩), .pointer (some ⟨bI, 0, none⟩), .pointer (some ⟨bE, 0, none⟩)] w fun e' w' => e' = .returned (.bool (endsF s rest p e)) ∧ TbAt s Nm tb r lo q w' ∧ Chg (fun x => x = r) w w' := by
  have hW := wds_le hs
  have dT : w.cell? ⟨bT, 0, none⟩ = some (.pointer (some ⟨tb, 0, none⟩)) := Blk.cell hT (by simp) 0
  have dL : w.cell? ⟨bL, 0, none⟩ = some (.slice (some ⟨b0, o0, none⟩) f.len cap) := Blk.cell hL (by simp) 0
  have dI : w.cell? ⟨bI, 0, none⟩ = some (.int .i64 i) := Blk.cell hI (by simp) 0
  have dE : w.cell? ⟨bE, 0, none⟩ = some (.int .i64 e) := Blk.cell hE (by simp) 0
  have iE : InHeap bE w := Blk.inHeap hE (by simp)
  have iT : InHeap bT w := Blk.inHeap hT (by simp)
  have iL : InHeap bL w := Blk.inHeap hL (by simp)
  have iI : InHeap bI w := Blk.inHeap hI (by simp)
  have hlen : f.len = i + 1 + rest.len := by rw [hf, Fr.len_app, hi]; simp [Fr.len]; omega
  have hcap : f.len ≤ cap ∧ cap ≤ 9223372036854775807 := by
    obtain ⟨xs, h1, _⟩ := hnf
    exact ⟨h1.le, h1.cap63⟩
  have H := Lib.hid ht
  have HQ := Lib.hid hq
  have HE := Lib.hid hE
  obtain ⟨FL, hFL⟩ : ∃ z, f.len = z := ⟨_, rfl⟩
  rw [hFL] at hlen hcap dL
  obtain ⟨j, hj⟩ : ∃ z, i + 1 = z := ⟨_, rfl⟩
  have hjl : j ≤ FL := by omega
  have hwr : IntKind.i64.wrap ((i : Int) + 1) = (j : Int) := by rw [wrap_small (by omega) (by omega)]; omega
  have hfj : FL - j = rest.len := by omega
  obtain ⟨A3, hA3⟩ : ∃ z, (if cap = j then (some ⟨b0, o0, none⟩ : Option Addr) else some ⟨b0, o0 + j * 264, none⟩) = z := ⟨_, rfl⟩
  have hdrop : NfAt (fun b => b < lo) w A3 (cap - j) rest (m + a1.size + 1 + k.size) := by
    have e2 : f = (a1.app (Fr.one x k)).app rest := by rw [hf, Fr.app_assoc]; rfl
    rw [e2] at hnf
    have hl2 : (a1.app (Fr.one x k)).len = j := by rw [Fr.len_app, hi]; exact hj
    have := hnf.drop A3 (fun hr => by rw [hl2, ← hA3, if_neg (by omega)]) (by rw [← hA3]; split <;> simp)
    rw [hl2] at this
    rw [show m + a1.size + 1 + k.size = m + (a1.app (Fr.one x k)).size by rw [Fr.size_app]; simp [Fr.one, Fr.size]; omega]
    exact this
  have hall2 : AllNum Nm rest (m + a1.size + 1 + k.size) := by
    rw [hf, AllNum.app] at hall
    exact hall.2.2.2
  have HD := Lib.hid hdrop
  have HA2 := Lib.hid hall2
  have HJ := Lib.hid (And.intro hj hlen)
  clear ht hq hT hL hI hE hcap hj hlen hdrop hall2 hnf hall hf hi hFL
  go_enter Tryz.func87, Tryz.ntmps87
  go_upto_region 1 with fail
  go_region_law (first
    | (go_simp; (with_reducible refine Calls.mono (row_drew (mrow_ok hs hN rest) _ A3 (cap - j) p HA2.out HD.out H.out HQ.out hp (by repeat' first | exact Grows.refl _ | refine Grows.drewN ?_ _ | refine Grows.drew ?_)) ?_); rintro e' w2 ⟨b2, rfl, hB2, hbl2, hT2, hC2⟩; have dE2 : w2.cell? ⟨bE, 0, none⟩ = some (.int .i64 e) := Blk.cell ((chg_blk hC2 iE hEr).trans HE.out) (by simp) 0; have B2 := Lib.hid hB2; have T2 := Lib.hid hT2; have C2 := Lib.hid hC2; clear hB2 hT2 hC2; dsimp only)
    | (go_simp; (with_reducible refine Calls.mono (mhas_drew B2.out e (wds_lt he) hW (by repeat' first | exact Grows.refl _ | refine Grows.drewN ?_ _ | refine Grows.drew ?_)) ?_); rintro e' w3 ⟨rfl, hw3⟩; subst hw3; dsimp only))
  all_goals
    go_wp2_with fail
    go_ret
    exact ⟨rfl, T2.out.grows (by repeat' first | exact Grows.refl _ | refine Grows.drewN ?_ _ | refine Grows.drew ?_), C2.out.trans (Chg.of_grows (by repeat' first | exact Grows.refl _ | refine Grows.drewN ?_ _ | refine Grows.drew ?_))⟩
set_option maxRecDepth 100000 in
set_option maxHeartbeats 4000000 in
theorem within1_any (hs : s.length ≤ 60000) (hN : NumOk Nm) {x : NdV} {k : Fr} (d e p : Nat) (id : Nat) (K : Option Addr) (kn kc : Nat) (A : Option Addr) (cap : Nat) (q : Nat → Prop) (w : World) {bT bX bD bE : Nat}
    (hT : blk w bT = #[.pointer (some ⟨tb, 0, none⟩)]) (hX : blk w bX = nmC x (.slice K kn kc) id (.slice A k.len cap)) (hD : blk w bD = #[.int .i64 d]) (hE : blk w bE = #[.int .i64 e])
    (hid : Nm id x k) (hall : AllNum Nm k (id + 1)) (hnf : NfAt (fun b => b < lo) w A cap k (id + 1)) (ht : TbAt s Nm tb r lo q w) (hq : ∀ b, w.heap.size ≤ b → q b) (hp : p ≤ s.length) (he : e ≤ s.length) (hd : d ≤ 90000) (hEr : bE ≠ r) :
    Calls Tryz.prog 110 #[.int .i64 p, .pointer (some ⟨bT, 0, none⟩), .pointer (some ⟨bX, 0, none⟩), .pointer (some ⟨bD, 0, none⟩), .pointer (some ⟨bE, 0, none⟩)] w fun e' w' => e' = .returned (.bool (turnsS s.length x (endsF s k) p (d + 1) e)) ∧ TbAt s Nm tb r lo q w' ∧ Chg (fun x => x = r) w w' := by
  have hW := wds_le hs
  have hturn : TurnsC s Nm tb r lo x k p (d + 1) := mturns_ok hs hN (hN.ok id x k hid).1 (mrow_ok hs hN k) p (d + 1) hp (by omega)
  have dT : w.cell? ⟨bT, 0, none⟩ = some (.pointer (some ⟨tb, 0, none⟩)) := Blk.cell hT (by simp) 0
  have dD : w.cell? ⟨bD, 0, none⟩ = some (.int .i64 d) := Blk.cell hD (by simp) 0
  have dE : w.cell? ⟨bE, 0, none⟩ = some (.int .i64 e) := Blk.cell hE (by simp) 0
  have iE : InHeap bE w := Blk.inHeap hE (by simp)
  have iT : InHeap bT w := Blk.inHeap hT (by simp)
  have iX : InHeap bX w := Blk.inHeap hX (by rw [nmC_size]; decide)
  have iD : InHeap bD w := Blk.inHeap hD (by simp)
  have hwr : IntKind.i64.wrap ((d : Int) + 1) = (d : Int) + 1 := wrap_small (by omega) (by omega)
  have H := Lib.hid ht
  have HQ := Lib.hid hq
  have HE := Lib.hid hE
  have HID := Lib.hid hid
  have HALL := Lib.hid hall
  have HNF := Lib.hid hnf
  have HTU := Lib.hid hturn
  clear ht hq hT hD hE hid hall hnf hturn
  go_enter Tryz.func110, Tryz.ntmps110
  go_upto_region 1 with fail
  go_region_law (first
    | (go_simp; (with_reducible refine Calls.mono (turn_next HTU.out id K kn kc A cap HID.out HALL.out HNF.out H.out HQ.out (by repeat' first | exact Grows.refl _ | refine Grows.drewN ?_ _ | refine Grows.drew ?_)) ?_); rintro e' w2 ⟨b2, rfl, hB2, hqb2, hbr2, hbt2, hT2, hC2⟩; have dE2 : w2.cell? ⟨bE, 0, none⟩ = some (.int .i64 e) := Blk.cell ((chg_blk hC2 iE hEr).trans HE.out) (by simp) 0; have B2 := Lib.hid hB2; have T2 := Lib.hid hT2; have C2 := Lib.hid hC2; clear hB2 hT2 hC2 hqb2; dsimp only)
    | (go_simp; (with_reducible refine Calls.mono (mhas_drew B2.out e (wds_lt he) hW (by repeat' first | exact Grows.refl _ | refine Grows.drewN ?_ _ | refine Grows.drew ?_)) ?_); rintro e' w3 ⟨rfl, hw3⟩; subst hw3; dsimp only))
  all_goals
    go_wp2_with fail
    go_ret
    exact ⟨rfl, T2.out.grows (by repeat' first | exact Grows.refl _ | refine Grows.drewN ?_ _ | refine Grows.drew ?_), C2.out.trans (Chg.of_grows (by repeat' first | exact Grows.refl _ | refine Grows.drewN ?_ _ | refine Grows.drew ?_))⟩
end
end Go.Proofs.YtkomggeionofbaaGreatDoor

/-
  Matches: stretches of groups within a node, walked.
-/
namespace Go.Proofs.YtkomggeionofbaaGreatDoor
open Go.RowKit

set_option maxRecDepth 3000 in
theorem turnsS_more (n : Nat) (x : NdV) (R : Nat → Pl) (i d : Nat) : turnsS n x R i (capD x d + 1) = turnsS n x R i (d + 1) := by
  rw [← turnsS_cap n x R i (capD x d + 1), ← turnsS_cap n x R i (d + 1)]
  congr 1
  unfold capD
  split <;> omega
set_option maxRecDepth 3000 in
theorem loop_spec {n a e d : Nat} {x : NdV} {R : Nat → Pl} (hR : Rises n R) (hae : a ≤ e) (hen : e ≤ n) (ht : turnsS n x R a d e = true) (hgo : a < e ∨ d < x.mn) :
    R a (longF (R a) (fun p => turnsS n x R p (d + 1) e) a e) = true ∧ turnsS n x R (longF (R a) (fun p => turnsS n x R p (d + 1) e) a e) (d + 1) e = true ∧ a ≤ longF (R a) (fun p => turnsS n x R p (d + 1) e) a e ∧ longF (R a) (fun p => turnsS n x R p (d + 1) e) a e ≤ e ∧
    (e - longF (R a) (fun p => turnsS n x R p (d + 1) e) a e) + (x.mn - (d + 1)) < (e - a) + (x.mn - d) := by
  rw [turnsS_eq hR (by omega)] at ht
  simp only [Bool.or_eq_true, Bool.and_eq_true, decide_eq_true_eq] at ht
  have hcap : capD x d ≤ d := by unfold capD; split <;> omega
  have hcapm : d < x.mn → capD x d < x.mn := fun h => by omega
  rcases ht with ⟨h1, h2⟩ | ⟨h1, h2⟩
  · have h3 : x.mn ≤ d := by omega
    omega
  · rw [anyTo_iff] at h2
    obtain ⟨i, hi, h3⟩ := h2
    simp only [Bool.or_eq_true, Bool.and_eq_true, decide_eq_true_eq] at h3
    obtain ⟨⟨h4, h5⟩, h6⟩ := h3
    rw [turnsS_more] at h6
    have hri := hR a i (by omega) h4
    have hie := turnsS_rises hR _ i (d + 1) e hri.2 h6
    obtain ⟨s1, s2, s3, s4, s5⟩ := longF_spec (R a) (fun p => turnsS n x R p (d + 1) e) a e ⟨i, hri.1, hie.1, h4, h6⟩
    refine ⟨s1, s2, s3, s4, ?_⟩
    by_cases hd : d < x.mn
    · omega
    · have hai : a < i := by
        rcases h5 with h | h
        · exact h
        · unfold capD at h; split at h <;> omega
      rcases s5 i hie.1 h4 h6 with h | h
      · omega
      · omega
set_option maxRecDepth 3000 in
theorem give_spec {s : List UInt8} {x : NdV} {k r : Fr} {a e : Nat} (hae : a ≤ e) (hen : e ≤ s.length) (h : endsF s (.cons x k r) a e = true) :
    nodeS s x (endsF s k) a (longF (nodeS s x (endsF s k) a) (fun q => endsF s r q e) a e) = true ∧ endsF s r (longF (nodeS s x (endsF s k) a) (fun q => endsF s r q e) a e) e = true ∧ a ≤ longF (nodeS s x (endsF s k) a) (fun q => endsF s r q e) a e ∧ longF (nodeS s x (endsF s k) a) (fun q => endsF s r q e) a e ≤ e := by
  rw [endsF_cons (by omega)] at h
  obtain ⟨i, hi, h1, h2⟩ := h
  have hr1 := nodeS_rises (endsF_rises s k) a i (by omega) h1
  have hr2 := endsF_rises s r i e hi h2
  obtain ⟨s1, s2, s3, s4, _⟩ := longF_spec (nodeS s x (endsF s k) a) (fun q => endsF s r q e) a e ⟨i, hr1.1, hr2.1, h1, h2⟩
  exact ⟨s1, s2, s3, s4⟩
set_option maxRecDepth 3000 in
theorem give_len : ∀ {s : List UInt8} {f : Fr} {a e : Nat} {g : Spn}, (giveV s f a e g).length = g.length := by
  intro s f
  induction f with
  | nil => intros; rfl
  | cons x k r ihk ihr =>
    intro a e g
    unfold giveV
    rw [ihr]
    unfold withinV
    split
    · rw [spSet_len, ihk]
    · split
      · have : ∀ (F a e d : Nat) (g : Spn), (turnLoop s.length x (endsF s k) (giveV s k) (unsetV k) F a e d g).length = g.length := by
          intro F
          induction F with
          | zero => intros; rfl
          | succ F ih =>
            intro a e d g
            unfold turnLoop
            split
            · rw [ih, ihk, unset_len]
            · rfl
        exact this _ _ _ _ _
      · rfl
section
variable (s : List UInt8) (Nm : Nat → NdV → Fr → Prop) (tb r lo : Nat)
/-- The contract of give. -/
def GiveC (f : Fr) : Prop := ∀ (m : Nat) (A : Option Addr) (cap a e G : Nat) (g : Spn) (q : Nat → Prop) (w : World), AllNum Nm f m → NfAt (fun b => b < lo) w A cap f m → TbAt s Nm tb r lo q w → (∀ b, w.heap.size ≤ b → q b) → a ≤ e → e ≤ s.length → endsF s f a e = true → SpAt w G g → ¬ q G → G ≠ r → G ≠ tb → lo ≤ G →
  Calls Tryz.prog 61 #[.pointer (some ⟨tb, 0, none⟩), .slice A f.len cap, .int .i64 a, .int .i64 e, .pointer (some ⟨G, 0, none⟩)] w fun e' w' => e' = .returned (.tuple #[]) ∧ SpAt w' G (giveV s f a e g) ∧ TbAt s Nm tb r lo q w' ∧ Chg (fun y => y = r ∨ y = G) w w'
/-- The contract of within. -/
def WithinC (x : NdV) (k : Fr) : Prop := ∀ (id : Nat) (K : Option Addr) (kn kc : Nat) (A : Option Addr) (cap a e G : Nat) (g : Spn) (q : Nat → Prop) (w : World), Nm id x k → AllNum Nm k (id + 1) → NfAt (fun b => b < lo) w A cap k (id + 1) → TbAt s Nm tb r lo q w → (∀ b, w.heap.size ≤ b → q b) → a ≤ e → e ≤ s.length → nodeS s x (endsF s k) a e = true → SpAt w G g → ¬ q G → G ≠ r → G ≠ tb → lo ≤ G →
  Calls Tryz.prog 89 #[.pointer (some ⟨tb, 0, none⟩), .agg (nmC x (.slice K kn kc) id (.slice A k.len cap)), .int .i64 a, .int .i64 e, .pointer (some ⟨G, 0, none⟩)] w fun e' w' => e' = .returned (.tuple #[]) ∧ SpAt w' G (withinV s x k (giveV s k) a e g) ∧ TbAt s Nm tb r lo q w' ∧ Chg (fun y => y = r ∨ y = G) w w'
end
section
variable {s : List UInt8} {Nm : Nat → NdV → Fr → Prop} {tb r lo : Nat}
/-- The variables of within. -/
structure WvAt (tb : Nat) (x : NdV) (K : Option Addr) (kn kc id : Nat) (A : Option Addr) (kl cap e bT bX bE : Nat) (w : World) : Prop where
  t : blk w bT = #[.pointer (some ⟨tb, 0, none⟩)]
  x : blk w bX = nmC x (.slice K kn kc) id (.slice A kl cap)
  e : blk w bE = #[.int .i64 e]
section
variable {x : NdV} {K : Option Addr} {kn kc id : Nat} {A : Option Addr} {kl cap e bT bX bE : Nat} {w w' : World} {p : Nat → Prop}
set_option maxRecDepth 3000 in
theorem WvAt.lts (h : WvAt tb x K kn kc id A kl cap e bT bX bE w) : bT < w.heap.size ∧ bX < w.heap.size ∧ bE < w.heap.size := ⟨Blk.inHeap h.t (by simp), Blk.inHeap h.x (by rw [nmC_size]; decide), Blk.inHeap h.e (by simp)⟩
set_option maxRecDepth 3000 in
theorem WvAt.chg (h : WvAt tb x K kn kc id A kl cap e bT bX bE w) (hc : Chg p w w') (hp : ¬ p bT ∧ ¬ p bX ∧ ¬ p bE) : WvAt tb x K kn kc id A kl cap e bT bX bE w' :=
  ⟨(chg_blk hc h.lts.1 hp.1).trans h.t, (chg_blk hc h.lts.2.1 hp.2.1).trans h.x, (chg_blk hc h.lts.2.2 hp.2.2).trans h.e⟩
set_option maxRecDepth 3000 in
theorem WvAt.grows (h : WvAt tb x K kn kc id A kl cap e bT bX bE w) (hg : Grows w w') : WvAt tb x K kn kc id A kl cap e bT bX bE w' := h.chg (Chg.of_grows (p := fun _ => False) hg) ⟨fun h => h, fun h => h, fun h => h⟩
set_option maxRecDepth 3000 in
theorem WvAt.tc (h : WvAt tb x K kn kc id A kl cap e bT bX bE w) : w.cell? ⟨bT, 0, none⟩ = some (.pointer (some ⟨tb, 0, none⟩)) := Blk.cell h.t (by simp) 0
set_option maxRecDepth 3000 in
theorem WvAt.ec (h : WvAt tb x K kn kc id A kl cap e bT bX bE w) : w.cell? ⟨bE, 0, none⟩ = some (.int .i64 e) := Blk.cell h.e (by simp) 0
set_option maxRecDepth 3000 in
theorem WvAt.kind (h : WvAt tb x K kn kc id A kl cap e bT bX bE w) : w.cell? ⟨bX, 0, none⟩ = some (.int .i64 x.kind) := ((Blk.cell h.x (by rw [nmC_size]; decide) 0).trans (nmA_lt (ndA_size _ _ _ _ _ _ _) (by decide))).trans (ndA_0 _ _ _ _ _ _ _)
set_option maxRecDepth 3000 in
theorem WvAt.n (h : WvAt tb x K kn kc id A kl cap e bT bX bE w) : w.cell? ⟨bX, 258, none⟩ = some (.int .i64 x.n) := ((Blk.cell h.x (by rw [nmC_size]; decide) 258).trans (nmA_lt (ndA_size _ _ _ _ _ _ _) (by decide))).trans (ndA_258 _ _ _ _ _ _ _)
set_option maxRecDepth 3000 in
theorem WvAt.mn (h : WvAt tb x K kn kc id A kl cap e bT bX bE w) : w.cell? ⟨bX, 259, none⟩ = some (.int .i64 x.mn) := ((Blk.cell h.x (by rw [nmC_size]; decide) 259).trans (nmA_lt (ndA_size _ _ _ _ _ _ _) (by decide))).trans (ndA_259 _ _ _ _ _ _ _)
set_option maxRecDepth 3000 in
theorem WvAt.kids (h : WvAt tb x K kn kc id A kl cap e bT bX bE w) : w.cell? ⟨bX, 263, none⟩ = some (.slice A kl cap) := (Blk.cell h.x (by rw [nmC_size]; decide) 263).trans (nmA_263 (ndA_size _ _ _ _ _ _ _))
end
set_option maxRecDepth 3000 in
/-- The greatest place of a turn. -/
theorem within_long (hs : s.length ≤ 60000) (hN : NumOk Nm) {x : NdV} {k : Fr} (a d e : Nat) (id : Nat) (K : Option Addr) (kn kc : Nat) (A : Option Addr) (cap : Nat) (q : Nat → Prop) {w w0 : World} {bT bX bD bE bR : Nat}
    (hv : WvAt tb x K kn kc id A k.len cap e bT bX bE w) (hD : blk w bD = #[.int .i64 d]) (hB : PlAt w bR (wds s.length) (endsF s k a))
    (hid : Nm id x k) (hall : AllNum Nm k (id + 1)) (hnf : NfAt (fun b => b < lo) w A cap k (id + 1)) (ht : TbAt s Nm tb r lo q w) (hq : ∀ b, w.heap.size ≤ b → q b) (ha : a ≤ s.length) (he : e ≤ s.length) (hd : d ≤ 90000) (hne : bT ≠ r ∧ bX ≠ r ∧ bE ≠ r ∧ bD ≠ r ∧ bR ≠ r) (hg : Grows w w0) :
    Calls Tryz.prog 86 #[plV bR (wds s.length), .int .i64 a, .int .i64 e, .func (.func 110) #[] #[.pointer (some ⟨bT, 0, none⟩), .pointer (some ⟨bX, 0, none⟩), .pointer (some ⟨bD, 0, none⟩), .pointer (some ⟨bE, 0, none⟩)]] w0 fun e' w' => e' = .returned (.int .i64 (longF (endsF s k a) (fun p => turnsS s.length x (endsF s k) p (d + 1) e) a e : Nat)) ∧ TbAt s Nm tb r lo q w' ∧ Chg (fun y => y = r) w w' := by
  have hin : ∀ p, endsF s k a p = true → p ≤ s.length := fun p h => (endsF_rises s k a p ha h).2
  have iD : bD < w.heap.size := Blk.inHeap hD (by simp)
  have hV : OnV (.func (.func 110) #[] #[.pointer (some ⟨bT, 0, none⟩), .pointer (some ⟨bX, 0, none⟩), .pointer (some ⟨bD, 0, none⟩), .pointer (some ⟨bE, 0, none⟩)]) (endsF s k a) (fun p => turnsS s.length x (endsF s k) p (d + 1) e) a e 110 #[.pointer (some ⟨bT, 0, none⟩), .pointer (some ⟨bX, 0, none⟩), .pointer (some ⟨bD, 0, none⟩), .pointer (some ⟨bE, 0, none⟩)] (fun wj => TbAt s Nm tb r lo q wj ∧ Chg (fun y => y = r) w wj) := by
    refine ⟨rfl, enters_within1, fun p wj h1 h2 h3 ⟨h4, h5⟩ => ?_⟩
    have vj := hv.chg h5 ⟨hne.1, hne.2.1, hne.2.2.1⟩
    have hsz := h5.size
    refine (within1_any hs hN d e p id K kn kc A cap q wj vj.t vj.x ((chg_blk h5 iD hne.2.2.2.1).trans hD) vj.e hid hall (hnf.chg h5 fun b _ hb e => by have := ht.lr; omega) h4 (fun b hb => hq b (by omega)) (hin p h3) he hd hne.2.2.1).mono ?_
    rintro e' w' ⟨rfl, g1, g2⟩
    exact ⟨rfl, g1, h5.trans g2⟩
  refine (longest_any (w := w0) (b := bR) (e := e) hV ⟨ht.grows hg, Chg.of_grows hg⟩ (fun wj ⟨h4, h5⟩ => hB.chg h5 hne.2.2.2.2) (wds_le hs) (wds_lt he)).mono ?_
  rintro e' w' ⟨rfl, h1, h2⟩
  exact ⟨rfl, h1, h2⟩
set_option maxRecDepth 3000 in
theorem give_long (hs : s.length ≤ 60000) (hN : NumOk Nm) {f a1 k rest : Fr} {x : NdV} (m b0 o0 cap i a e : Nat) (hf : f = a1.app (.cons x k rest)) (hi : a1.len = i) (q : Nat → Prop) {w w0 : World} {bT bL bI bE c : Nat} {P : Pl}
    (hT : blk w bT = #[.pointer (some ⟨tb, 0, none⟩)]) (hL : blk w bL = #[.slice (some ⟨b0, o0, none⟩) f.len cap]) (hI : blk w bI = #[.int .i64 i]) (hE : blk w bE = #[.int .i64 e]) (hB : PlAt w c (wds s.length) P) (hin : ∀ p, P p = true → p ≤ s.length)
    (hall : AllNum Nm f m) (hnf : NfAt (fun b => b < lo) w (some ⟨b0, o0, none⟩) cap f m) (ht : TbAt s Nm tb r lo q w) (hq : ∀ b, w.heap.size ≤ b → q b) (he : e ≤ s.length) (hne : bT ≠ r ∧ bL ≠ r ∧ bI ≠ r ∧ bE ≠ r ∧ c ≠ r) (hg : Grows w w0) :
    Calls Tryz.prog 86 #[plV c (wds s.length), .int .i64 a, .int .i64 e, .func (.func 87) #[] #[.pointer (some ⟨bT, 0, none⟩), .pointer (some ⟨bL, 0, none⟩), .pointer (some ⟨bI, 0, none⟩), .pointer (some ⟨bE, 0, none⟩)]] w0 fun e' w' => e' = .returned (.int .i64 (longF P (fun p => endsF s rest p e) a e : Nat)) ∧ TbAt s Nm tb r lo q w' ∧ Chg (fun y => y = r) w w' := by
  have iT : bT < w.heap.size := Blk.inHeap hT (by simp)
  have iL : bL < w.heap.size := Blk.inHeap hL (by simp)
  have iI : bI < w.heap.size := Blk.inHeap hI (by simp)
  have iE : bE < w.heap.size := Blk.inHeap hE (by simp)
  have hV : OnV (.func (.func 87) #[] #[.pointer (some ⟨bT, 0, none⟩), .pointer (some ⟨bL, 0, none⟩), .pointer (some ⟨bI, 0, none⟩), .pointer (some ⟨bE, 0, none⟩)]) P (fun p => endsF s rest p e) a e 87 #[.pointer (some ⟨bT, 0, none⟩), .pointer (some ⟨bL, 0, none⟩), .pointer (some ⟨bI, 0, none⟩), .pointer (some ⟨bE, 0, none⟩)] (fun wj => TbAt s Nm tb r lo q wj ∧ Chg (fun y => y = r) w wj) := by
    refine ⟨rfl, enters_give1, fun p wj h1 h2 h3 ⟨h4, h5⟩ => ?_⟩
    have hsz := h5.size
    refine (give1_any hs hN m b0 o0 cap i e p hf hi q wj ((chg_blk h5 iT hne.1).trans hT) ((chg_blk h5 iL hne.2.1).trans hL) ((chg_blk h5 iI hne.2.2.1).trans hI) ((chg_blk h5 iE hne.2.2.2.1).trans hE) hall (hnf.chg h5 fun b _ hb e => by have := ht.lr; omega) h4 (fun b hb => hq b (by omega)) (hin p h3) he hne.2.2.2.1).mono ?_
    rintro e' w' ⟨rfl, g1, g2⟩
    exact ⟨rfl, g1, h5.trans g2⟩
  refine (longest_any (w := w0) (b := c) (e := e) hV ⟨ht.grows hg, Chg.of_grows hg⟩ (fun wj ⟨h4, h5⟩ => hB.chg h5 hne.2.2.2.2) (wds_le hs) (wds_lt he)).mono ?_
  rintro e' w' ⟨rfl, h1, h2⟩
  exact ⟨rfl, h1, h2⟩
end
end Go.Proofs.YtkomggeionofbaaGreatDoor
