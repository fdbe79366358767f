/-
  Splices: fold, All, Apply.
-/
import Derived.Test.YthmfhcnminkhaaaDone
namespace Go.Proofs.Ythmfhcnminkhaaa
open Go.RowKit

/-- A splice in memory, with its lines. -/
structure Spx where
  at_ : Int
  del : Int
  A : Option Addr
  cap : Nat
  ins : List (List UInt8)
def Spx.cells (s : Spx) : List Value := [.int .i64 s.at_, .int .i64 s.del, .slice s.A s.ins.length s.cap]
def Spx.ok (w : World) (s : Spx) : Prop := I64 s.at_ ∧ I64 s.del ∧ Rd w 1 s.A s.ins.length (lv s.ins) ∧ (s.A = none → s.ins.length = 0 ∧ s.cap = 0) ∧ s.ins.length ≤ 1000000 ∧ ∀ t ∈ s.ins, t.length ≤ 9223372036854775807
theorem Spx.ok.grows {w w' : World} {s : Spx} (h : s.ok w) (hg : Grows w w') : s.ok w' := ⟨h.1, h.2.1, h.2.2.1.grows hg, h.2.2.2⟩
theorem spx_cells (L : List Spx) : ∀ (k : Nat) (h : k < L.length), (L.flatMap Spx.cells)[k * 3]? = some (.int .i64 L[k].at_) ∧ (L.flatMap Spx.cells)[k * 3 + 1]? = some (.int .i64 L[k].del) ∧ (L.flatMap Spx.cells)[k * 3 + 2]? = some (.slice L[k].A L[k].ins.length L[k].cap) := by
  induction L with
  | nil => intro k h; simp at h
  | cons s L ih =>
    intro k h
    match k with
    | 0 => simp [Spx.cells]
    | k + 1 =>
      have := ih k (by simpa using h)
      have e : (k + 1) * 3 = k * 3 + 3 := by omega
      simpa [Spx.cells, e] using this
/-- What comes of splices one behind the other. -/
def foldV (d : List (List UInt8)) : List Spx → List (List UInt8) × Int
  | [] => (d, 0)
  | s :: L => if (doneV d s.at_ s.del s.ins).2 ≠ 0 then ([], (doneV d s.at_ s.del s.ins).2) else foldV (doneV d s.at_ s.del s.ins).1 L
theorem doneV_len (d : List (List UInt8)) (a e : Int) (ins : List (List UInt8)) : (doneV d a e ins).1.length ≤ 2000 := by
  unfold doneV
  split
  · simp
  · rename_i h1
    have hmin : ¬ min a e < 0 := by
      intro h; simp [spCheckV, h] at h1
    split
    · simp
    · split
      · simp
      · simp; omega
theorem own_row {w : World} {base : Nat} {v : Value} {d : List (List UInt8)} (h : w.ownsRow base 9 1 v d.length (lv d)) : ∃ A cap, v = .slice A d.length cap ∧ d.length ≤ cap ∧ cap ≤ 9223372036854775807 ∧ Rd w 1 A d.length (lv d) ∧ (A = none → d.length = 0 ∧ cap = 0) ∧ ∀ a, A = some a → a.spot = none := by
  obtain ⟨A, cap, e, h1, h2, h3, h4⟩ := own_rd' h
  refine ⟨A, cap, e, h1, h2, h3, h4, fun a ha => ?_⟩
  subst ha
  rcases h.2 with ⟨e2, _⟩ | ⟨g, c, cur, e2, _⟩
  · rw [e] at e2; injection e2 with e3; cases e3
  · rw [e] at e2; injection e2 with e3; injection e3 with e3; rw [e3]

set_option maxHeartbeats 2000000 in
theorem fold_any (base : Nat) (v : Value) (d : List (List UInt8)) (L : List Spx) (A : Option Addr) (cap : Nat) (w : World) (hv : w.ownsRow base 9 1 v d.length (lv d)) (hb : base ≤ w.heap.size) (hd : d.length ≤ 1000000) (hL : Rd w 3 A L.length (L.flatMap Spx.cells)) (hlen : L.length ≤ 1000000) (hl : ∀ s ∈ L, s.ok w) :
    Calls Try.prog 22 #[v, .slice A L.length cap, .func (.func 24) #[] #[]] w fun e w' => ∃ v', e = .returned (.tuple #[v', .int .i64 (foldV d L).2]) ∧ w'.ownsRow base 9 1 v' (foldV d L).1.length (lv (foldV d L).1) ∧ Grows w w' := by
  have HL := Lib.hid hl
  clear hl
  go_enter Try.func22, Try.ntmps22
  go_wp2_with fail
  go_loopg [0, 15] L.length (fun q v i wr => ∃ (k : Nat) (dk : List (List UInt8)), q + k = L.length ∧ i = .int .i64 k ∧ foldV d L = foldV dk (L.drop k) ∧ dk.length ≤ 1000000 ∧ wr.ownsRow base 9 1 v dk.length (lv dk) ∧ ∃ m, wr = more w m)
  case atStart => exact ⟨0, d, by omega, rfl, rfl, hd, hv, ⟨#[], w.drawn⟩, by simp [more]⟩
  case round =>
    obtain ⟨k, dk, hq, rfl, hF, hdk, hown, m, rfl⟩ := hrel
    have HQ := Lib.hid hq
    have HF := Lib.hid hF
    have HO := Lib.hid hown
    obtain ⟨Ad, cd, rfl, hcap, hc63, hA, hnA, hsA⟩ := own_row hown
    have HNA := Lib.hid hnA
    have HSA := Lib.hid hsA
    have HHA := Lib.hid hA
    have hkl : k ≤ L.length := by omega
    clear hq hF hown hnA hsA hA hv
    by_cases hlt : k < L.length
    · obtain ⟨b, o, rfl, hb', hc⟩ := hL.2 (by omega)
      obtain ⟨hc0, hc1, hc2⟩ := spx_cells L k hlt
      have hc0 := hc _ _ hc0
      have hc1 := hc _ _ hc1
      have hc2 := hc _ _ hc2
      rw [← Nat.add_assoc] at hc1 hc2
      have hb' : InHeap b w := hb'
      have HC := Lib.hid hc
      obtain ⟨ka, kd, kI, kn, ki, kl⟩ := HL.out _ (List.getElem_mem hlt)
      have KI := Lib.hid kI
      have KN := Lib.hid kn
      have KL := Lib.hid kl
      clear kI kn kl
      have HD : Hid (foldV dk (L.drop k) = if (doneV dk L[k].at_ L[k].del L[k].ins).2 ≠ 0 then ([], (doneV dk L[k].at_ L[k].del L[k].ins).2) else foldV (doneV dk L[k].at_ L[k].del L[k].ins).1 (L.drop (k + 1))) := Lib.hid (by rw [List.drop_eq_getElem_cons hlt]; rfl)
      clear hc
      go_wp2_with fail
      (with_reducible refine (done_any Ad L[k].A cd L[k].cap dk L[k].ins L[k].at_ L[k].del _ (HHA.out.grows ((Grows.refl _).alloc _)) HNA.out HSA.out hcap hc63 (KI.out.grows (((Grows.refl _).more _).alloc _)) KN.out hdk ki KL.out ka kd).mono ?_)
      rintro e w' ⟨v', rfl, hown', m', rfl⟩
      have HO' := Lib.hid hown'
      clear hown'
      by_cases hz : (doneV dk L[k].at_ L[k].del L[k].ins).2 = 0
      · rw [hz]
        have hl2 := doneV_len dk L[k].at_ L[k].del L[k].ins
        go_wp2_with fail
        go_roundg (gk - 1)
        case measure => have := HQ.out; omega
        case rel => exact ⟨k + 1, _, by have := HQ.out; omega, by go_num, by rw [HF.out, HD.out, if_neg (by simpa using hz)], by omega, own_le HO'.out (by simp [go_sem]; omega), (((Grows.refl _).more _).alloc _).more _⟩
      · have hz' : ((doneV dk L[k].at_ L[k].del L[k].ins).2 != 0) = true := by simpa using hz
        go_wp2_with fail
        go_ret2
        rw [HF.out, HD.out, if_pos hz]
        exact ⟨_, rfl, World.ownsRow_nil _ _ _ _, (((Grows.refl _).more _).alloc _).more _⟩
    · have hk : L.drop k = [] := List.drop_eq_nil_of_le (by omega)
      go_wp2_with fail
      go_ret2
      rw [HF.out, hk]
      exact ⟨_, rfl, HO.out, (Grows.refl _).more _⟩

/-- What All answers. -/
def spAllV (d : List (List UInt8)) (L : List Spx) : List (List UInt8) × Int := if lcheckV d ≠ 0 then ([], lcheckV d) else foldV d L
theorem lcheckV_len {d : List (List UInt8)} (h : lcheckV d = 0) : d.length ≤ 2000 := by
  unfold lcheckV at h
  split at h
  · cases h
  · split at h
    · cases h
    · rename_i h2
      simp only [Bool.or_eq_true, decide_eq_true_eq, not_or] at h2
      omega

set_option maxHeartbeats 2000000 in
theorem spAll_any (Ad A : Option Addr) (cd cap : Nat) (d : List (List UInt8)) (L : List Spx) (w : World) (hA : Rd w 1 Ad d.length (lv d)) (hnA : Ad = none → d.length = 0 ∧ cd = 0) (hd : d.length ≤ 8000000000000) (hdl : ∀ t ∈ d, t.length ≤ 9223372036854775807) (hL : Rd w 3 A L.length (L.flatMap Spx.cells)) (hlen : L.length ≤ 1000000) (hl : ∀ s ∈ L, s.ok w) :
    Calls Try.prog 20 #[.slice Ad d.length cd, .slice A L.length cap] w (DonePost (spAllV d L) w) := by
  have HL := Lib.hid hl
  have HD := Lib.hid hdl
  have HN := Lib.hid hnA
  clear hl hdl hnA
  by_cases h : lcheckV d = 0
  · have HV : Hid (spAllV d L = foldV d L) := Lib.hid (by simp [spAllV, h])
    have hd2 := lcheckV_len h
    go_enter Try.func20, Try.ntmps20
    go_wp2_with fail
    (with_reducible refine (lcheck_any Ad cd d _ hA (by omega) HD.out).mono ?_)
    rw [h]
    rintro e w' ⟨rfl, rfl⟩
    go_wp2_with fail
    (with_reducible refine (clone_any Ad cd d _ hA hd HN.out).mono ?_)
    rintro e w' ⟨v, rfl, hown, m, rfl⟩
    go_wp2_with fail
    (with_reducible refine (fold_any _ v d L A cap _ hown (by simp [go_sem]) (by omega) (hL.grows ((Grows.refl _).more _)) hlen (fun s hs => (HL.out s hs).grows ((Grows.refl _).more _))).mono ?_)
    rintro e w' ⟨v', rfl, hown', m', rfl⟩
    go_wp2_with fail
    go_ret2
    rw [HV.out]
    exact ⟨_, rfl, hown', ((Grows.refl _).more _).more _⟩
  · have HV : Hid (spAllV d L = ([], lcheckV d)) := Lib.hid (by simp [spAllV, h])
    have hz' : (lcheckV d != 0) = true := by simpa using h
    go_enter Try.func20, Try.ntmps20
    go_wp2_with fail
    (with_reducible refine (lcheck_any Ad cd d _ hA (by omega) HD.out).mono ?_)
    rintro e w' ⟨rfl, rfl⟩
    go_wp2_with fail
    go_ret2
    rw [HV.out]
    exact ⟨_, rfl, World.ownsRow_nil _ _ _ _, Grows.refl _⟩

theorem spAll_n (Ad A : Option Addr) (cd n cap : Nat) (d : List (List UInt8)) (L : List Spx) (w : World) (hn : n = L.length) (hA : Rd w 1 Ad d.length (lv d)) (hnA : Ad = none → d.length = 0 ∧ cd = 0) (hd : d.length ≤ 8000000000000) (hdl : ∀ t ∈ d, t.length ≤ 9223372036854775807) (hL : Rd w 3 A L.length (L.flatMap Spx.cells)) (hlen : L.length ≤ 1000000) (hl : ∀ s ∈ L, s.ok w) :
    Calls Try.prog 20 #[.slice Ad d.length cd, .slice A n cap] w (DonePost (spAllV d L) w) := by
  subst hn
  exact spAll_any Ad A cd cap d L w hA hnA hd hdl hL hlen hl

set_option maxHeartbeats 2000000 in
theorem apply_any (Ad : Option Addr) (cd : Nat) (d : List (List UInt8)) (s : Spx) (w : World) (hA : Rd w 1 Ad d.length (lv d)) (hnA : Ad = none → d.length = 0 ∧ cd = 0) (hd : d.length ≤ 8000000000000) (hdl : ∀ t ∈ d, t.length ≤ 9223372036854775807) (hs : s.ok w) :
    Calls Try.prog 17 #[.slice Ad d.length cd, .agg #[.int .i64 s.at_, .int .i64 s.del, .slice s.A s.ins.length s.cap]] w (DonePost (spAllV d [s]) w) := by
  have HS := Lib.hid hs
  have HD := Lib.hid hdl
  have HN := Lib.hid hnA
  clear hs hdl hnA
  go_enter Try.func17, Try.ntmps17
  go_wp2_with fail
  (with_reducible refine (spAll_n Ad _ cd 1 1 d [s] _ rfl (hA.grows (((Grows.refl _).alloc _).alloc _)) HN.out hd HD.out ?_ (by simp) (fun x hx => ?_)).mono ?_)
  · refine ⟨by simp [Spx.cells], fun _ => ⟨_, 0, rfl, ?_, fun j u hu => ?_⟩⟩
    · simp [go_sem]
    · simp only [List.flatMap_cons, List.flatMap_nil, List.append_nil, Spx.cells] at hu
      match j, hu with
      | 0, hu => simp at hu; subst hu; simp [go_sem]
      | 1, hu => simp at hu; subst hu; simp [go_sem]
      | 2, hu => simp at hu; subst hu; simp [go_sem]
      | k + 3, hu => simp at hu
  · simp only [List.mem_singleton] at hx
    subst hx
    exact HS.out.grows (((Grows.refl _).alloc _).alloc _)
  rintro e w' ⟨v', rfl, hown', m', rfl⟩
  go_wp2_with fail
  go_ret2
  exact ⟨_, rfl, own_le hown' (by simp [go_sem]; try omega), (((Grows.refl _).alloc _).alloc _).more _⟩
end Go.Proofs.Ythmfhcnminkhaaa
