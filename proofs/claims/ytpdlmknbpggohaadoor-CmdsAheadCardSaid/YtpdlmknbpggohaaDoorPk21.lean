/-
  Addresses: one address, walked. (Printed by addro.py.)
-/
import Derived.Test.YtpdlmknbpggohaaDoorPk14
import Derived.Test.YtpdlmknbpggohaaDoorPk19
import Derived.Test.YtpdlmknbpggohaaDoorPk20
namespace Go.Proofs.YtpdlmknbpggohaaDoor
open Go.RowKit

attribute [local go_sem] tx_bt tx_from
/-- What One leaves. -/
def OnePost (s : List UInt8) (r : Option (Adr × List UInt8)) (e : Ending) : Prop :=
  match r with
  | none => e = .returned (.tuple #[.agg (adrC adr0), .int .i64 0, .int .i64 200])
  | some x => ∃ j : Nat, e = .returned (.tuple #[.agg (adrC x.1), .int .i64 j, .int .i64 0]) ∧ At s j x.2
set_option maxRecDepth 3000 in
theorem numAt_any {s l : List UInt8} {k : Nat} (h : At s k l) (hl : s.length ≤ 100000) (w : World) (kI : Int) (hk : kI = (k : Int)) :
    Calls Tryd.prog 37 #[.string (tx s), .int .i64 kI] w fun e w' => NumPost s k l e ∧ w' = w := by
  subst hk
  exact number_any h hl w
set_option maxRecDepth 3000 in
theorem digit_at {s l : List UInt8} {k : Nat} (h : At s k l) (hl : s.length ≤ 100000) (w : World) (b : Bool) (hb : digH l = b) :
    Calls Tryd.prog 36 #[.string (tx s), .int .i64 k] w fun e w' => e = .returned (.bool b) ∧ w' = w := by
  subst hb
  exact digit_any h hl w
set_option maxRecDepth 3000 in
theorem blanks_lit {s l : List UInt8} {k : Nat} (h : At s k l) (hl : s.length ≤ 100000) (w : World) (kI : Int) (hk : kI = (k : Int)) :
    Calls Tryd.prog 19 #[.string (tx s), .int .i64 kI] w fun e w' => (∃ j : Nat, e = .returned (.int .i64 j) ∧ At s j (skipL l) ∧ k ≤ j) ∧ w' = w := by
  subst hk
  exact blanks_any h hl w
set_option maxRecDepth 3000 in
theorem one_eq {s t : List UInt8} (h : skipL s = t) : oneL s = (baseL t).bind fun x => loopL (s.length + 1) x.1 (decide (x.2.length < t.length)) x.2 := by subst h; rfl
set_option maxRecDepth 3000 in
theorem loop_nil {n : Nat} {a : Adr} {t : Bool} {l : List UInt8} (h : skipL l = []) : loopL (n + 1) a t l = some (a, l) := by rw [loopL.eq_def]; simp only []; rw [h]
set_option maxRecDepth 3000 in
theorem loop_cons {n : Nat} {a : Adr} {t : Bool} {l r : List UInt8} {c : UInt8} (h : skipL l = c :: r) : loopL (n + 1) a t l = if c.toNat = 43 ∨ c.toNat = 45 then
        (numL r).bind fun x => loopL n { a with kind := if t then a.kind else 1, add := a.add + (if c.toNat = 45 then -1 else 1) * (if x.2.length = r.length then 1 else x.1) } true x.2
      else if t = true ∧ isDig c = true then (numL (c :: r)).bind fun x => loopL n { a with add := a.add + x.1 } true x.2
      else some (a, l) := by rw [loopL.eq_def]; simp only []; rw [h]
/-- An address lies at block g. -/
def AdrAt (w : World) (g : Nat) (a : Adr) : Prop := blk w g = adrC a
section
variable {w w' : World} {g : Nat} {a : Adr}
set_option maxRecDepth 3000 in
theorem AdrAt.inh (h : AdrAt w g a) : InHeap g w := Blk.inHeap h (by simp [adrC])
set_option maxRecDepth 3000 in
theorem AdrAt.cell (h : AdrAt w g a) (i : Nat) : w.cell? ⟨g, i, none⟩ = (adrC a)[i]? := Blk.cell h (by simp [adrC]) i
set_option maxRecDepth 3000 in
theorem AdrAt.cells (h : AdrAt w g a) : w.cell? ⟨g, 0, none⟩ = some (.int .i64 a.kind) ∧ w.cell? ⟨g, 1, none⟩ = some (.int .i64 a.n) ∧ w.cell? ⟨g, 2, none⟩ = some (.string (tx a.re)) ∧ w.cell? ⟨g, 3, none⟩ = some (.int .i64 a.add) :=
  ⟨h.cell 0, h.cell 1, h.cell 2, h.cell 3⟩
set_option maxRecDepth 3000 in
theorem AdrAt.free (h : AdrAt w g a) : ∀ k, w.frozen? ⟨g, k, none⟩ = false := fun k => Blk.free h (by simp [adrC]) k
set_option maxRecDepth 3000 in
theorem AdrAt.setKind (h : AdrAt w g a) (k : Nat) (v : Value) (hv : v = .int .i64 k) : AdrAt (w.setCell ⟨g, 0, none⟩ v) g { a with kind := k } := by subst hv; exact (pa_put h (by simp [adrC]) 0 _).trans rfl
set_option maxRecDepth 3000 in
theorem AdrAt.setAdd (h : AdrAt w g a) (n : Int) (v : Value) (hv : v = .int .i64 n) : AdrAt (w.setCell ⟨g, 3, none⟩ v) g { a with add := n } := by subst hv; exact (pa_put h (by simp [adrC]) 3 _).trans rfl
set_option maxRecDepth 3000 in
theorem AdrAt.more (h : AdrAt w g a) (m : More) : AdrAt (more w m) g a := (blk_more _ _ _ h.inh).trans h
end
set_option maxRecDepth 3000 in
theorem num_len {l : List UInt8} {x : Nat × List UInt8} (h : numL l = some x) : x.1 < 1000000000 := by
  unfold numL at h
  split at h
  · cases h
  · injection h with h
    subst h
    exact valD_nine (by omega) (fun c hc => by
      have := List.all_takeWhile (p := isDig) (l := l)
      rw [List.all_eq_true] at this
      exact this c hc)
set_option maxRecDepth 3000 in
theorem base_add {l : List UInt8} {x : Adr × List UInt8} (h : baseL l = some x) : x.1.add = 0 := by
  unfold baseL at h
  split at h
  · injection h with h; subst h; rfl
  split at h
  · injection h with h; subst h; rfl
  split at h
  · injection h with h; subst h; rfl
  split at h
  · split at h
    · cases h
    · split at h
      · injection h with h; subst h; rfl
      · cases h
  split at h
  · injection h with h; subst h; rfl
  split at h
  · rw [Option.map_eq_some_iff] at h
    obtain ⟨y, _, rfl⟩ := h
    rfl
  · injection h with h; subst h; rfl
/-- The walk's state at a round. -/
structure OneAt (s : List UInt8) (w wr : World) (j : Nat) (th : Bool) (a : Adr) (t : List UInt8) : Prop where
  at_ : At s j t
  adr : AdrAt wr w.heap.size a
  below : Below w.heap.size w wr
  lo : -((j : Int) * 1000000000) ≤ a.add
  hi : a.add ≤ (j : Int) * 1000000000
  eq : ∃ m, t.length < m ∧ oneL s = loopL m a th t
section
variable {s t r : List UInt8} {w wr : World} {j : Nat} {th : Bool} {a : Adr} {c : UInt8}
set_option maxRecDepth 3000 in
theorem OneAt.nil (h : OneAt s w wr j th a t) (hs : skipL t = []) : oneL s = some (a, t) := by
  obtain ⟨m, h1, h2⟩ := h.eq
  cases m with
  | zero => omega
  | succ m => rw [h2, loop_nil hs]
set_option maxRecDepth 3000 in
theorem OneAt.stop (h : OneAt s w wr j th a t) (hs : skipL t = c :: r) (h1 : ¬ (c.toNat = 43 ∨ c.toNat = 45)) (h2 : ¬ (th = true ∧ isDig c = true)) : oneL s = some (a, t) := by
  obtain ⟨m, h3, h4⟩ := h.eq
  cases m with
  | zero => omega
  | succ m => rw [h4, loop_cons hs, if_neg h1, if_neg h2]
set_option maxRecDepth 3000 in
theorem OneAt.signNo (h : OneAt s w wr j th a t) (hs : skipL t = c :: r) (h1 : c.toNat = 43 ∨ c.toNat = 45) (hn : numL r = none) : oneL s = none := by
  obtain ⟨m, h3, h4⟩ := h.eq
  cases m with
  | zero => omega
  | succ m => rw [h4, loop_cons hs, if_pos h1, hn]; rfl
set_option maxRecDepth 3000 in
theorem OneAt.digNo (h : OneAt s w wr j th a t) (hs : skipL t = c :: r) (h1 : ¬ (c.toNat = 43 ∨ c.toNat = 45)) (h2 : th = true ∧ isDig c = true) (hn : numL (c :: r) = none) : oneL s = none := by
  obtain ⟨m, h3, h4⟩ := h.eq
  cases m with
  | zero => omega
  | succ m => rw [h4, loop_cons hs, if_neg h1, if_pos h2, hn]; rfl
set_option maxRecDepth 3000 in
theorem OneAt.sign (h : OneAt s w wr j th a t) (hs : skipL t = c :: r) (h1 : c.toNat = 43 ∨ c.toNat = 45) {x : Nat × List UInt8} (hn : numL r = some x) {w2 : World} {k j1 : Nat} (hj1 : At s j1 r) (hk : At s k x.2) {kd : Nat} {sg : Int} {n : Nat} (hkd : kd = if th then a.kind else 1)
    (hsg : sg = if c.toNat = 45 then -1 else 1) (hn1 : n = if x.2.length = r.length then 1 else x.1) (hA : AdrAt w2 w.heap.size { a with kind := kd, add := a.add + sg * n }) (hB : Below w.heap.size w w2) (hjk : j < j1) (hk1 : j1 ≤ k) : OneAt s w w2 k true { a with kind := kd, add := a.add + sg * n } x.2 := by
  obtain ⟨m, h3, h4⟩ := h.eq
  have hlo := h.lo
  have hhi := h.hi
  have hnn : n ≤ 1000000000 := by
    have := num_len hn
    subst hn1
    split <;> omega
  have hsn : -1000000000 ≤ sg * n ∧ sg * n ≤ 1000000000 := by
    subst hsg
    split <;> omega
  refine ⟨hk, hA, hB, ?_, ?_, ?_⟩
  · show _ ≤ a.add + sg * n
    omega
  · show a.add + sg * n ≤ _
    omega
  · cases m with
    | zero => omega
    | succ m =>
      refine ⟨m, ?_, ?_⟩
      · have e1 := (num_suffix hn).length_le
        have e2 := skip_le t
        rw [hs] at e2
        simp only [List.length_cons] at e2
        omega
      · rw [h4, loop_cons hs, if_pos h1, hn, hkd, hsg, hn1]
        simp only [Option.bind_some]
set_option maxRecDepth 3000 in
theorem OneAt.dig (h : OneAt s w wr j th a t) (hs : skipL t = c :: r) (h1 : ¬ (c.toNat = 43 ∨ c.toNat = 45)) (h2 : th = true ∧ isDig c = true) {x : Nat × List UInt8} (hn : numL (c :: r) = some x) {w2 : World} {k j1 : Nat} (hk : At s k x.2) (hj1 : At s j1 (c :: r))
    (hA : AdrAt w2 w.heap.size { a with add := a.add + x.1 }) (hB : Below w.heap.size w w2) (hjk : j ≤ j1) (hk1 : j1 ≤ k) : OneAt s w w2 k true { a with add := a.add + x.1 } x.2 ∧ j1 < k := by
  obtain ⟨m, h3, h4⟩ := h.eq
  have hlo := h.lo
  have hhi := h.hi
  have hnn := num_len hn
  have hnl := num_digit hn h2.2
  have hlt : j1 < k := by
    have := hk.len
    have := hk.le
    have := hj1.len
    have := hj1.le
    simp only [List.length_cons] at *
    omega
  refine ⟨⟨hk, hA, hB, ?_, ?_, ?_⟩, hlt⟩
  · show _ ≤ a.add + (x.1 : Int)
    omega
  · show a.add + (x.1 : Int) ≤ _
    omega
  · cases m with
    | zero => omega
    | succ m =>
      refine ⟨m, ?_, ?_⟩
      · have e2 := skip_le t
        rw [hs] at e2
        simp only [List.length_cons] at e2
        omega
      · rw [h4, loop_cons hs, if_neg h1, if_pos h2, hn]
        rfl
end
set_option maxRecDepth 3000 in
set_option maxHeartbeats 8000000 in
theorem one_any (s : List UInt8) (hl : s.length ≤ 1000) (w : World) :
    Calls Tryd.prog 20 #[.string (tx s)] w fun e w' => OnePost s (oneL s) e ∧ Grows w w' := by
  have hl5 : s.length ≤ 100000 := by omega
  have S0 := Lib.hid (At.start s)
  go_enter Tryd.func20, Tryd.ntmps20
  go_wp2_with fail
  (with_reducible refine (blanks_lit S0.out hl5 _ 0 rfl).mono ?_)
  rintro e w1 ⟨⟨j0, rfl, hA0, -⟩, hw⟩
  subst hw
  have HA0 := Lib.hid hA0
  have hj0 := hA0.le
  clear hA0
  go_wp2_with fail
  (with_reducible refine (base_any HA0.out hl5 _).mono ?_)
  rintro e w1 ⟨hp, m, rfl⟩
  unfold BasePost at hp
  obtain ⟨t0, ht0⟩ : ∃ t, skipL s = t := ⟨_, rfl⟩
  have HONE := Lib.hid (one_eq ht0)
  rw [ht0] at hp HA0
  clear ht0
  cases hbs : baseL t0 with
  | none =>
    rw [hbs] at hp HONE
    subst hp
    clear hbs
    go_wp2_with fail
    refine bodyPost_ret (v := .tuple #[.agg (adrC adr0), .int .i64 0, .int .i64 200]) (by simp [results, Tryd.results20, go_sem, adrC, adr0]; try rfl) rfl ⟨?_, by repeat' first | exact Grows.refl _ | refine Grows.more ?_ _ | refine Grows.alloc ?_ _⟩
    rw [HONE.out]; rfl
  | some x =>
    obtain ⟨a0, t1⟩ := x
    rw [hbs] at hp HONE
    obtain ⟨j1, rfl, hA1, hj1⟩ := hp
    simp only [Option.bind_some] at HONE
    have HA1 := Lib.hid hA1
    have hj1l := hA1.le
    have hadd0 : a0.add = 0 := base_add hbs
    have HADD := Lib.hid hadd0
    have hth : decide (t1.length < t0.length) = decide (j0 < j1) := by
      rw [decide_eq_decide]
      have := hA1.len; have := HA0.out.len
      simp only [] at *
      omega
    rw [hth] at HONE
    obtain ⟨th0, hth0⟩ : ∃ b, decide (j0 < j1) = b := ⟨_, rfl⟩
    rw [hth0] at HONE
    clear hA1 hbs hth hadd0
    go_wp2_with fail
    go_loopg [3, 5, 6, 7, 8, 9, 10] t1.length (fun q v3 _ v6 _ _ _ _ wr => ∃ (j : Nat) (th : Bool) (a : Adr) (t : List UInt8), q = t.length ∧ v3 = .int .i64 j ∧ v6 = .bool th ∧ j ≤ s.length ∧ OneAt s w wr j th a t)
    case atStart =>
      have hz := HADD.out
      refine ⟨j1, th0, a0, t1, rfl, rfl, rfl, hj1l, HA1.out, ?_, ?_, ?_, ?_, s.length + 1, by have := HA1.out.len; omega, HONE.out⟩
      · exact AdrAt.more (blk_alloc_at _ _ _ _ rfl) _
      · exact (Grows.below (((Grows.refl w).alloc _).more _))
      · omega
      · omega
    case round =>
      obtain ⟨j, th, a, t, hq, rfl, rfl, hjl, W⟩ := hrel
      obtain ⟨wx, hwx⟩ : ∃ z, z = wr := ⟨_, rfl⟩
      subst hwx
      have HQ := Lib.hid hq
      have hlo := W.lo
      have hhi := W.hi
      obtain ⟨c0, c1, c2, c3⟩ := W.adr.cells
      have hfr := W.adr.free
      have ig : InHeap w.heap.size wx := W.adr.inh
      have hAt := Lib.hid W.at_
      have HW := Lib.hid W
      clear W hq
      go_wp2_with fail
      (with_reducible refine (blanks_lit hAt.out hl5 _ j rfl).mono ?_)
      rintro e w1 ⟨⟨j2, rfl, hA2, hjj⟩, hw⟩
      have hw := hw.symm
      subst hw
      obtain ⟨u, hu⟩ : ∃ u, skipL t = u := ⟨_, rfl⟩
      rw [hu] at hA2
      have HU := Lib.hid hu
      have HA2 := Lib.hid hA2
      have hj2 := hA2.le
      clear hu hA2
      cases u with
      | nil =>
        have e1 : decide (j2 < s.length) = false := by rw [decide_eq_false_iff_not]; have := HA2.out.nil; omega
        cases th with
        | false =>
          have HV := Lib.hid (HW.out.nil HU.out)
          go_wp2_with fail
          refine bodyPost_ret (v := .tuple #[.agg (adrC a), .int .i64 j, .int .i64 0]) (by simp [results, Tryd.results20, go_sem, adrC, c0, c1, c2, c3]; try rfl) rfl ⟨?_, Grows.of_below (((((HW.out.below.setCell (Nat.le_refl _) _).setCell (Nat.le_refl _) _).setCell (Nat.le_refl _) _).setCell (Nat.le_refl _) _))⟩
          rw [HV.out]
          exact ⟨j, rfl, hAt.out⟩
        | true =>
          go_wp2_with fail
          (with_reducible refine (digit_at HA2.out hl5 _ false (by simp [digH])).mono ?_)
          rintro e w1 ⟨rfl, hw⟩
          have hw := hw.symm
          subst hw
          have HV := Lib.hid (HW.out.nil HU.out)
          go_wp2_with fail
          refine bodyPost_ret (v := .tuple #[.agg (adrC a), .int .i64 j, .int .i64 0]) (by simp [results, Tryd.results20, go_sem, adrC, c0, c1, c2, c3]; try rfl) rfl ⟨?_, Grows.of_below (((((HW.out.below.setCell (Nat.le_refl _) _).setCell (Nat.le_refl _) _).setCell (Nat.le_refl _) _).setCell (Nat.le_refl _) _))⟩
          rw [HV.out]
          exact ⟨j, rfl, hAt.out⟩
      | cons c r =>
        have hlt := HA2.out.lt
        have hb := HA2.out.bt
        obtain ⟨n, hn⟩ : ∃ n, c.toNat = n := ⟨_, rfl⟩
        rw [hn] at hb
        have HN := Lib.hid hn
        clear hn
        by_cases k43 : n = 43
        · have e43 : ((n : Int) == 43) = true := by rw [k43]; rfl
          have e45 : ((n : Int) == 45) = false := by rw [k43]; rfl
          have hcs : c.toNat = 43 ∨ c.toNat = 45 := .inl (HN.out.trans k43)
          have hsg : (1 : Int) = if c.toNat = 45 then -1 else 1 := by rw [HN.out, k43]; rfl
          have HCS := Lib.hid hcs
          have HSG := Lib.hid hsg
          clear hcs hsg k43
          have hA3 := HA2.out.next
          have HA3 := Lib.hid hA3
          have hj3 := hA3.le
          clear hA3
          go_wp2_with fail
          (with_reducible refine (numAt_any HA3.out hl5 _ _ (by simp)).mono ?_)
          rintro e w1 ⟨hp, hw⟩
          have hw := hw.symm
          subst hw
          unfold NumPost at hp
          cases hnum : numL r with
          | none =>
            rw [hnum] at hp
            subst hp
            have HV := Lib.hid (HW.out.signNo HU.out HCS.out hnum)
            go_wp2_with fail
            refine bodyPost_ret (v := .tuple #[.agg (adrC adr0), .int .i64 0, .int .i64 200]) (by simp [results, Tryd.results20, go_sem, adrC, adr0, c0, c1, c2, c3]; try rfl) rfl ⟨?_, Grows.of_below (((((HW.out.below.setCell (Nat.le_refl _) _).setCell (Nat.le_refl _) _).setCell (Nat.le_refl _) _).setCell (Nat.le_refl _) _))⟩
            rw [HV.out]
            rfl
          | some x =>
            rw [hnum] at hp
            obtain ⟨j4, rfl, hA4, hk4, hx9⟩ := hp
            have hj4 := hA4.le
            have HA4 := Lib.hid hA4
            have HNM := Lib.hid hnum
            have hlen4 : x.2.length = r.length ↔ j4 = j2 + 1 := by
              have := HA4.out.len
              have := HA3.out.len
              omega
            have HL4 := Lib.hid hlen4
            clear hA4 hnum hlen4
            by_cases k4 : j4 = j2 + 1
            · have e4 : ((j4 : Int) == (j2 : Int) + 1) = true := by rw [k4]; simp
              have e4n : (j4 == j2 + 1) = true := by rw [k4]; simp
              have hone : (1 : Nat) = if x.2.length = r.length then 1 else x.1 := by rw [if_pos (HL4.out.2 k4)]
              have HO := Lib.hid hone
              clear hone k4
              cases th with
              | true =>
                go_wp2_with fail
                go_roundg x.2.length
                case measure => have := HQ.out; have := HA4.out.len; have := hAt.out.len; omega
                case rel => exact ⟨j4, true, _, x.2, rfl, rfl, rfl, hj4, HW.out.sign HU.out HCS.out HNM.out HA3.out HA4.out (kd := a.kind) (sg := 1) (n := 1) rfl HSG.out HO.out (HW.out.adr.setAdd (a.add + 1 * ((1 : Nat) : Int)) _ (by congr 1; try omega)) (HW.out.below.setCell (Nat.le_refl _) _) (by omega) hk4⟩
              | false =>
                go_wp2_with fail
                go_roundg x.2.length
                case measure => have := HQ.out; have := HA4.out.len; have := hAt.out.len; omega
                case rel => exact ⟨j4, true, _, x.2, rfl, rfl, rfl, hj4, HW.out.sign HU.out HCS.out HNM.out HA3.out HA4.out (kd := 1) (sg := 1) (n := 1) rfl HSG.out HO.out ((HW.out.adr.setKind 1 _ rfl).setAdd (a.add + 1 * ((1 : Nat) : Int)) _ (by congr 1; try omega)) ((HW.out.below.setCell (Nat.le_refl _) _).setCell (Nat.le_refl _) _) (by omega) hk4⟩
            · have e4 : ((j4 : Int) == (j2 : Int) + 1) = false := by rw [beq_eq_false_iff_ne]; omega
              have e4n : (j4 == j2 + 1) = false := by rw [beq_eq_false_iff_ne]; exact k4
              have hone : x.1 = if x.2.length = r.length then 1 else x.1 := by rw [if_neg fun h => k4 (HL4.out.1 h)]
              have HO := Lib.hid hone
              clear hone k4
              cases th with
              | true =>
                go_wp2_with fail
                go_roundg x.2.length
                case measure => have := HQ.out; have := HA4.out.len; have := hAt.out.len; omega
                case rel => exact ⟨j4, true, _, x.2, rfl, rfl, rfl, hj4, HW.out.sign HU.out HCS.out HNM.out HA3.out HA4.out (kd := a.kind) (sg := 1) (n := x.1) rfl HSG.out HO.out (HW.out.adr.setAdd (a.add + 1 * ((x.1 : Nat) : Int)) _ (by congr 1; try omega)) (HW.out.below.setCell (Nat.le_refl _) _) (by omega) hk4⟩
              | false =>
                go_wp2_with fail
                go_roundg x.2.length
                case measure => have := HQ.out; have := HA4.out.len; have := hAt.out.len; omega
                case rel => exact ⟨j4, true, _, x.2, rfl, rfl, rfl, hj4, HW.out.sign HU.out HCS.out HNM.out HA3.out HA4.out (kd := 1) (sg := 1) (n := x.1) rfl HSG.out HO.out ((HW.out.adr.setKind 1 _ rfl).setAdd (a.add + 1 * ((x.1 : Nat) : Int)) _ (by congr 1; try omega)) ((HW.out.below.setCell (Nat.le_refl _) _).setCell (Nat.le_refl _) _) (by omega) hk4⟩
        have e43 : ((n : Int) == 43) = false := by rw [beq_eq_false_iff_ne]; omega
        by_cases k45 : n = 45
        · have e45 : ((n : Int) == 45) = true := by rw [k45]; rfl
          have hcs : c.toNat = 43 ∨ c.toNat = 45 := .inr (HN.out.trans k45)
          have hsg : (-1 : Int) = if c.toNat = 45 then -1 else 1 := by rw [HN.out, k45]; rfl
          have HCS := Lib.hid hcs
          have HSG := Lib.hid hsg
          clear hcs hsg k45 k43
          have hA3 := HA2.out.next
          have HA3 := Lib.hid hA3
          have hj3 := hA3.le
          clear hA3
          go_wp2_with fail
          (with_reducible refine (numAt_any HA3.out hl5 _ _ (by simp)).mono ?_)
          rintro e w1 ⟨hp, hw⟩
          have hw := hw.symm
          subst hw
          unfold NumPost at hp
          cases hnum : numL r with
          | none =>
            rw [hnum] at hp
            subst hp
            have HV := Lib.hid (HW.out.signNo HU.out HCS.out hnum)
            go_wp2_with fail
            refine bodyPost_ret (v := .tuple #[.agg (adrC adr0), .int .i64 0, .int .i64 200]) (by simp [results, Tryd.results20, go_sem, adrC, adr0, c0, c1, c2, c3]; try rfl) rfl ⟨?_, Grows.of_below (((((HW.out.below.setCell (Nat.le_refl _) _).setCell (Nat.le_refl _) _).setCell (Nat.le_refl _) _).setCell (Nat.le_refl _) _))⟩
            rw [HV.out]
            rfl
          | some x =>
            rw [hnum] at hp
            obtain ⟨j4, rfl, hA4, hk4, hx9⟩ := hp
            have hj4 := hA4.le
            have HA4 := Lib.hid hA4
            have HNM := Lib.hid hnum
            have hlen4 : x.2.length = r.length ↔ j4 = j2 + 1 := by
              have := HA4.out.len
              have := HA3.out.len
              omega
            have HL4 := Lib.hid hlen4
            clear hA4 hnum hlen4
            by_cases k4 : j4 = j2 + 1
            · have e4 : ((j4 : Int) == (j2 : Int) + 1) = true := by rw [k4]; simp
              have e4n : (j4 == j2 + 1) = true := by rw [k4]; simp
              have hone : (1 : Nat) = if x.2.length = r.length then 1 else x.1 := by rw [if_pos (HL4.out.2 k4)]
              have HO := Lib.hid hone
              clear hone k4
              cases th with
              | true =>
                go_wp2_with fail
                go_roundg x.2.length
                case measure => have := HQ.out; have := HA4.out.len; have := hAt.out.len; omega
                case rel => exact ⟨j4, true, _, x.2, rfl, rfl, rfl, hj4, HW.out.sign HU.out HCS.out HNM.out HA3.out HA4.out (kd := a.kind) (sg := -1) (n := 1) rfl HSG.out HO.out (HW.out.adr.setAdd (a.add + -1 * ((1 : Nat) : Int)) _ (by congr 1; try omega)) (HW.out.below.setCell (Nat.le_refl _) _) (by omega) hk4⟩
              | false =>
                go_wp2_with fail
                go_roundg x.2.length
                case measure => have := HQ.out; have := HA4.out.len; have := hAt.out.len; omega
                case rel => exact ⟨j4, true, _, x.2, rfl, rfl, rfl, hj4, HW.out.sign HU.out HCS.out HNM.out HA3.out HA4.out (kd := 1) (sg := -1) (n := 1) rfl HSG.out HO.out ((HW.out.adr.setKind 1 _ rfl).setAdd (a.add + -1 * ((1 : Nat) : Int)) _ (by congr 1; try omega)) ((HW.out.below.setCell (Nat.le_refl _) _).setCell (Nat.le_refl _) _) (by omega) hk4⟩
            · have e4 : ((j4 : Int) == (j2 : Int) + 1) = false := by rw [beq_eq_false_iff_ne]; omega
              have e4n : (j4 == j2 + 1) = false := by rw [beq_eq_false_iff_ne]; exact k4
              have hone : x.1 = if x.2.length = r.length then 1 else x.1 := by rw [if_neg fun h => k4 (HL4.out.1 h)]
              have HO := Lib.hid hone
              clear hone k4
              cases th with
              | true =>
                go_wp2_with fail
                go_roundg x.2.length
                case measure => have := HQ.out; have := HA4.out.len; have := hAt.out.len; omega
                case rel => exact ⟨j4, true, _, x.2, rfl, rfl, rfl, hj4, HW.out.sign HU.out HCS.out HNM.out HA3.out HA4.out (kd := a.kind) (sg := -1) (n := x.1) rfl HSG.out HO.out (HW.out.adr.setAdd (a.add + -1 * ((x.1 : Nat) : Int)) _ (by congr 1; try omega)) (HW.out.below.setCell (Nat.le_refl _) _) (by omega) hk4⟩
              | false =>
                go_wp2_with fail
                go_roundg x.2.length
                case measure => have := HQ.out; have := HA4.out.len; have := hAt.out.len; omega
                case rel => exact ⟨j4, true, _, x.2, rfl, rfl, rfl, hj4, HW.out.sign HU.out HCS.out HNM.out HA3.out HA4.out (kd := 1) (sg := -1) (n := x.1) rfl HSG.out HO.out ((HW.out.adr.setKind 1 _ rfl).setAdd (a.add + -1 * ((x.1 : Nat) : Int)) _ (by congr 1; try omega)) ((HW.out.below.setCell (Nat.le_refl _) _).setCell (Nat.le_refl _) _) (by omega) hk4⟩
        have e45 : ((n : Int) == 45) = false := by rw [beq_eq_false_iff_ne]; omega
        have hcs : ¬ (c.toNat = 43 ∨ c.toNat = 45) := by rw [HN.out]; omega
        have HCS := Lib.hid hcs
        clear hcs k43 k45
        cases th with
        | false =>
          have HV := Lib.hid (HW.out.stop HU.out HCS.out (fun h => by cases h.1))
          go_wp2_with fail
          refine bodyPost_ret (v := .tuple #[.agg (adrC a), .int .i64 j, .int .i64 0]) (by simp [results, Tryd.results20, go_sem, adrC, c0, c1, c2, c3]; try rfl) rfl ⟨?_, Grows.of_below (((((HW.out.below.setCell (Nat.le_refl _) _).setCell (Nat.le_refl _) _).setCell (Nat.le_refl _) _).setCell (Nat.le_refl _) _))⟩
          rw [HV.out]
          exact ⟨j, rfl, hAt.out⟩
        | true =>
          cases hd : isDig c with
          | false =>
            have HND := Lib.hid hd
            have HDH := Lib.hid (show digH (c :: r) = false from hd)
            clear hd
            go_wp2_with fail
            (with_reducible refine (digit_at HA2.out hl5 _ false (by exact HDH.out)).mono ?_)
            rintro e w1 ⟨rfl, hw⟩
            have hw := hw.symm
            subst hw
            have HV := Lib.hid (HW.out.stop HU.out HCS.out fun h => by rw [HND.out] at h; cases h.2)
            go_wp2_with fail
            refine bodyPost_ret (v := .tuple #[.agg (adrC a), .int .i64 j, .int .i64 0]) (by simp [results, Tryd.results20, go_sem, adrC, c0, c1, c2, c3]; try rfl) rfl ⟨?_, Grows.of_below (((((HW.out.below.setCell (Nat.le_refl _) _).setCell (Nat.le_refl _) _).setCell (Nat.le_refl _) _).setCell (Nat.le_refl _) _))⟩
            rw [HV.out]
            exact ⟨j, rfl, hAt.out⟩
          | true =>
            have HDH := Lib.hid (show digH (c :: r) = true from hd)
            have HD2 := Lib.hid hd
            clear hd
            go_wp2_with fail
            (with_reducible refine (digit_at HA2.out hl5 _ true (by exact HDH.out)).mono ?_)
            rintro e w1 ⟨rfl, hw⟩
            have hw := hw.symm
            subst hw
            go_wp2_with fail
            (with_reducible refine (numAt_any HA2.out hl5 _ _ rfl).mono ?_)
            rintro e w1 ⟨hp, hw⟩
            have hw := hw.symm
            subst hw
            unfold NumPost at hp
            cases hnum : numL (c :: r) with
            | none =>
              rw [hnum] at hp
              subst hp
              have HV := Lib.hid (HW.out.digNo HU.out HCS.out ⟨rfl, HD2.out⟩ hnum)
              go_wp2_with fail
              refine bodyPost_ret (v := .tuple #[.agg (adrC adr0), .int .i64 0, .int .i64 200]) (by simp [results, Tryd.results20, go_sem, adrC, adr0, c0, c1, c2, c3]; try rfl) rfl ⟨?_, Grows.of_below (((((HW.out.below.setCell (Nat.le_refl _) _).setCell (Nat.le_refl _) _).setCell (Nat.le_refl _) _).setCell (Nat.le_refl _) _))⟩
              rw [HV.out]
              rfl
            | some x =>
              rw [hnum] at hp
              obtain ⟨j4, rfl, hA4, hk4, hx9⟩ := hp
              have hj4 := hA4.le
              have HA4 := Lib.hid hA4
              have HNM := Lib.hid hnum
              have hne : j2 < j4 := by
                have := num_digit hnum HD2.out
                have := hA4.len
                have := HA2.out.len
                simp only [List.length_cons] at *
                omega
              clear hA4 hnum
              have e4 : ((j4 : Int) == (j2 : Int)) = false := by rw [beq_eq_false_iff_ne]; omega
              have e4n : (j4 == j2) = false := by rw [beq_eq_false_iff_ne]; omega
              go_wp2_with fail
              go_roundg x.2.length
              case measure => have := HQ.out; have := HA4.out.len; have := hAt.out.len; omega
              case rel => exact ⟨j4, true, _, x.2, rfl, rfl, rfl, hj4, (HW.out.dig HU.out HCS.out ⟨rfl, HD2.out⟩ HNM.out HA4.out HA2.out (HW.out.adr.setAdd (a.add + (x.1 : Int)) _ (by congr 1; try omega)) (HW.out.below.setCell (Nat.le_refl _) _) hjj hk4).1⟩


end Go.Proofs.YtpdlmknbpggohaaDoor
