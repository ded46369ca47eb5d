-- Printed by wip/tools/myprint.py (over the kit's print.py), with hand-written contracts; Lean checks all of it.
import Derived.Test.YtegfnceepplooaaPTRx0
import Derived.Test.YtegfnceepplooaaPTRx3
import Derived.Test.YtegfnceepplooaaPTRx4
import Derived.Test.YtegfnceepplooaaPTRx5
namespace Go.Proofs.Ytegfnceepplooaa.PTR
open Go.RowKit Go.Proofs.YtegfnceepplooaaW.PrintWords Go.Proofs.YtegfnceepplooaaW.PrintLast Go.Proofs.YtegfnceepplooaaW.PrintMore
attribute [local go_sem] max2_int min2_int max_two min_two max_three min_three max_four min_four   -- for this text's walks alone
set_option linter.unusedVariables false
set_option linter.unusedSimpArgs false

/-! ### fold_Agrees: function 34 -/
open Go.Proofs.Ytegfnceepplooaa.FMap
/-- The map behind some writes, its entries in the keys' order. -/
def behindV (l : List S50) : List KV := l.foldl (fun m r => doV m r.f4 r.f6 r.f7) []
def mkE (p : KV) : S103 := ⟨p.1, p.2⟩
def smallR (l : List S50) : Bool := l.all (fun r => decide (r.f6.size ≤ maxLen) && decide (r.f7.size ≤ maxLen)) && decide (l.length ≤ 1099511627776)
theorem smallR_at {l : List S50} (h : smallR l = true) : l.length ≤ 1099511627776 ∧ ∀ r ∈ l, r.f6.size ≤ maxLen ∧ r.f7.size ≤ maxLen := by
  unfold smallR at h
  rw [Bool.and_eq_true, decide_eq_true_eq, List.all_eq_true] at h
  exact ⟨h.2, fun r hr => by simpa using h.1 r hr⟩
theorem behindV_snoc (l : List S50) (r : S50) : behindV (l ++ [r]) = doV (behindV l) r.f4 r.f6 r.f7 := by simp [behindV, List.foldl_append]
theorem behindV_take {l : List S50} {j : Nat} (h : j < l.length) : behindV (l.take (j + 1)) = doV (behindV (l.take j)) (rd_T50 l (j : Int)).f4 (rd_T50 l (j : Int)).f6 (rd_T50 l (j : Int)).f7 := by
  rw [List.take_succ_eq_append_getElem h, behindV_snoc]
  have : rd_T50 l (j : Int) = l[j] := by unfold rd_T50; simp [h]
  rw [this]
theorem behindV_len : ∀ (n : Nat) (l : List S50), l.length = n → (behindV l).length ≤ n
  | 0, l, h => by
    have : l = [] := List.eq_nil_of_length_eq_zero h
    subst this; exact Nat.le_refl _
  | n + 1, l, h => by
    obtain ⟨t, x, rfl⟩ : ∃ t x, l = t ++ [x] := ⟨l.dropLast, l.getLast (by intro e; simp [e] at h), (List.dropLast_concat_getLast _).symm⟩
    rw [behindV_snoc]
    have := behindV_len n t (by simpa using h)
    have := do_length (behindV t) x.f4 x.f6 x.f7
    omega
theorem behindV_mem {p : KV} : ∀ (n : Nat) (l : List S50), l.length = n → p ∈ behindV l → ∃ r ∈ l, p = (r.f6, r.f7)
  | 0, l, h, hp => by
    have : l = [] := List.eq_nil_of_length_eq_zero h
    subst this; cases hp
  | n + 1, l, h, hp => by
    obtain ⟨t, x, rfl⟩ : ∃ t x, l = t ++ [x] := ⟨l.dropLast, l.getLast (by intro e; simp [e] at h), (List.dropLast_concat_getLast _).symm⟩
    rw [behindV_snoc] at hp
    rcases do_mem hp with hp | hp
    · exact ⟨x, by simp, hp⟩
    · obtain ⟨r, hr, e⟩ := behindV_mem n t (by simpa using h) hp
      exact ⟨r, by simp [hr], e⟩
/-- From the beginning of n records on, d of them at the most: the first behind which the operation gives the result. -/
def agreesL (k : Nat) (l : List S50) (a1_0 : Int) (a1_1 : ByteArray) (a1_2 : ByteArray) (a2_0 : Bool) (a2_1 : ByteArray) (l2_2 : List S103) (a3 : Int) : Nat → Nat → Option (Int × Bool)
  | 0, _ => none
  | d + 1, n => if l.length < n then some (0, false) else if a3 ≤ (n : Int) then ((fold_given.f k ((behindV (l.take n)).map mkE) a1_0 a1_1 a1_2).bind fun g => (fold_same.f k g.1 g.2.1 g.2.2 a2_0 a2_1 l2_2).bind fun t => if t = true then some ((n : Int), true) else agreesL k l a1_0 a1_1 a1_2 a2_0 a2_1 l2_2 a3 d (n + 1)) else agreesL k l a1_0 a1_1 a1_2 a2_0 a2_1 l2_2 a3 d (n + 1)
theorem agreesL_mono (k : Nat) (l : List S50) (a1_0 : Int) (a1_1 : ByteArray) (a1_2 : ByteArray) (a2_0 : Bool) (a2_1 : ByteArray) (l2_2 : List S103) (a3 : Int) : ∀ d n, LeO (agreesL k l a1_0 a1_1 a1_2 a2_0 a2_1 l2_2 a3 d n) (agreesL (k + 1) l a1_0 a1_1 a1_2 a2_0 a2_1 l2_2 a3 d n)
  | 0, _ => LeO.refl _
  | d + 1, n => by
    unfold agreesL
    exact LeO.ite (LeO.refl _) (LeO.ite (LeO.bind (fold_given.mono _ _ _ _ _) (fun _ => LeO.bind (fold_same.mono _ _ _ _ _ _ _) (fun _ => LeO.ite (LeO.refl _) (agreesL_mono k l a1_0 a1_1 a1_2 a2_0 a2_1 l2_2 a3 d (n + 1))))) (agreesL_mono k l a1_0 a1_1 a1_2 a2_0 a2_1 l2_2 a3 d (n + 1)))
def fold_Agrees.f (k : Nat) (l0 : List S50) (a1_0 : Int) (a1_1 : ByteArray) (a1_2 : ByteArray) (a2_0 : Bool) (a2_1 : ByteArray) (l2_2 : List S103) (a3 : Int) : Option (Int × Bool) := if a1_0 < 1 then some (0, false) else if 4 < a1_0 then some (0, false) else (fold_History.f l0).bind fun l => if smallR l = true then agreesL k l a1_0 a1_1 a1_2 a2_0 a2_1 l2_2 a3 (l.length + 2) 0 else none
theorem fold_Agrees.mono (l0 : List S50) (a1_0 : Int) (a1_1 : ByteArray) (a1_2 : ByteArray) (a2_0 : Bool) (a2_1 : ByteArray) (l2_2 : List S103) (a3 : Int) : ∀ k, LeO (fold_Agrees.f k l0 a1_0 a1_1 a1_2 a2_0 a2_1 l2_2 a3) (fold_Agrees.f (k + 1) l0 a1_0 a1_1 a1_2 a2_0 a2_1 l2_2 a3) := fun k =>
  LeO.ite (LeO.refl _) (LeO.ite (LeO.refl _) (LeO.bind (LeO.refl _) (fun _ => LeO.ite (agreesL_mono _ _ _ _ _ _ _ _ _ _ _) (LeO.refl _))))

set_option maxHeartbeats 8000000 in
set_option maxRecDepth 100000 in
theorem fold_Agrees.calls (k : Nat) (A0 : Option Addr) (c0 : Nat) (l0 : List (S50)) (a1_0 : Int) (a1_1 : ByteArray) (a1_2 : ByteArray) (a2_0 : Bool) (a2_1 : ByteArray) (A2_2 : Option Addr) (c2_2 : Nat) (l2_2 : List (S103)) (a3 : Int) (r1 : Int) (r2 : Bool) (w : World) (hr0 : Kd.C k50 w A0 l0.length l0) (hc0 : l0.length ≤ c0) (hr2_2 : Kd.C k103 w A2_2 l2_2.length l2_2) (hc2_2 : l2_2.length ≤ c2_2) (h : fold_Agrees.f k l0 a1_0 a1_1 a1_2 a2_0 a2_1 l2_2 a3 = some (r1, r2)) :
    Calls Try.prog 34 #[.slice A0 l0.length c0, .agg #[.int .i64 a1_0, .string a1_1, .string a1_2], .agg #[.bool a2_0, .string a2_1, .slice A2_2 l2_2.length c2_2], .int .i64 a3] w fun e w' => e = .returned (.tuple #[.int .i64 r1, .bool r2]) ∧ Below w.heap.size w w' := by
  unfold fold_Agrees.f at h
  by_cases h1 : a1_0 < 1
  · rw [if_pos h1] at h
    obtain ⟨rfl, rfl⟩ := Prod.mk.inj (Option.some.inj h)
    clear h hr0 hc0 hr2_2 hc2_2
    go_enter Try.func34, Try.ntmps34
    go_wp2
    go_ret2
    exact ⟨rfl, ((Below.refl _ _).alloc (Nat.le_refl _) _).alloc (by simp) _⟩
  · rw [if_neg h1] at h
    by_cases h2 : 4 < a1_0
    · rw [if_pos h2] at h
      obtain ⟨rfl, rfl⟩ := Prod.mk.inj (Option.some.inj h)
      clear h hr0 hc0 hr2_2 hc2_2
      go_enter Try.func34, Try.ntmps34
      go_wp2
      go_ret2
      exact ⟨rfl, ((Below.refl _ _).alloc (Nat.le_refl _) _).alloc (by simp) _⟩
    · rw [if_neg h2] at h
      have h9 := Option.bind_eq_some_iff.1 h
      clear h
      obtain ⟨l, hH, h⟩ := h9
      by_cases hs : smallR l = true
      · rw [if_pos hs] at h
        obtain ⟨hlen, hsz⟩ := smallR_at hs
        obtain ⟨W0, hW0⟩ : ∃ W0, W0 = (w.alloc (.cells #[.int .i64 a1_0, .string a1_1, .string a1_2] 31)).alloc (.cells #[.bool a2_0, .string a2_1, .slice A2_2 l2_2.length c2_2] 43) := ⟨_, rfl⟩
        have hB0 : Below w.heap.size w W0 := by rw [hW0]; exact ((Below.refl _ w).alloc (Nat.le_refl _) _).alloc (by simp) _
        have hsize : W0.heap.size = w.heap.size + 1 + 1 := by rw [hW0]; simp
        have cH := fold_History.calls A0 c0 l0 l W0 (Kd.C_below hr0 hB0) hc0 hH
        have o0 : W0.cell? ⟨w.heap.size, 0, none⟩ = some (.int .i64 a1_0) := by rw [hW0]; simp
        have o1 : W0.cell? ⟨w.heap.size, 1, none⟩ = some (.string a1_1) := by rw [hW0]; simp
        have o2 : W0.cell? ⟨w.heap.size, 2, none⟩ = some (.string a1_2) := by rw [hW0]; simp
        have x0 : W0.cell? ⟨w.heap.size + 1, 0, none⟩ = some (.bool a2_0) := by rw [hW0]; simp
        have x1 : W0.cell? ⟨w.heap.size + 1, 1, none⟩ = some (.string a2_1) := by rw [hW0]; simp
        have x2 : W0.cell? ⟨w.heap.size + 1, 2, none⟩ = some (.slice A2_2 l2_2.length c2_2) := by rw [hW0]; simp
        have OX : Aside0 (∀ W, Below W0.heap.size W0 W → (W.cell? ⟨w.heap.size, 0, none⟩ = some (.int .i64 a1_0) ∧ W.cell? ⟨w.heap.size, 1, none⟩ = some (.string a1_1) ∧ W.cell? ⟨w.heap.size, 2, none⟩ = some (.string a1_2)) ∧ (W.cell? ⟨w.heap.size + 1, 0, none⟩ = some (.bool a2_0) ∧ W.cell? ⟨w.heap.size + 1, 1, none⟩ = some (.string a2_1) ∧ W.cell? ⟨w.heap.size + 1, 2, none⟩ = some (.slice A2_2 l2_2.length c2_2))) :=
          ⟨fun W hW => ⟨⟨(hW.cell (p := ⟨w.heap.size, 0, none⟩) (by rw [hsize]; show w.heap.size < _; omega)).trans o0, (hW.cell (p := ⟨w.heap.size, 1, none⟩) (by rw [hsize]; show w.heap.size < _; omega)).trans o1, (hW.cell (p := ⟨w.heap.size, 2, none⟩) (by rw [hsize]; show w.heap.size < _; omega)).trans o2⟩, (hW.cell (p := ⟨w.heap.size + 1, 0, none⟩) (by rw [hsize]; show w.heap.size + 1 < _; omega)).trans x0, (hW.cell (p := ⟨w.heap.size + 1, 1, none⟩) (by rw [hsize]; show w.heap.size + 1 < _; omega)).trans x1, (hW.cell (p := ⟨w.heap.size + 1, 2, none⟩) (by rw [hsize]; show w.heap.size + 1 < _; omega)).trans x2⟩⟩
        have XR : Aside0 (∀ W, Below W0.heap.size W0 W → Kd.C k103 W A2_2 l2_2.length l2_2) := ⟨fun W hW => Kd.C_below hr2_2 (hB0.trans (hW.mono hB0.size))⟩
        have HC2 := Aside0.mk hc2_2
        have HS0 := Aside0.mk hsize
        have HB00 := Aside0.mk hB0
        have HLEN := Aside0.mk hlen
        have HSZ := Aside0.mk hsz
        have HH := Aside0.mk h
        have hmm := @run_makeMap Try.prog
        clear hs hH hr0 hc0 hr2_2 hc2_2 h hsz o0 o1 o2 x0 x1 x2 hB0 hsize
        go_enter Try.func34, Try.ntmps34
        go_wp2_with (go_at_call 12; rw [← hW0]; refine cH.mono ?_; rintro e w1 ⟨v, rfl, hR, hB⟩; obtain ⟨A, c, rfl, hlc, hC⟩ := Kd.R_reads hR; have HC := Aside0.mk hC; have HB := Aside0.mk hB; clear hR hC hB hlc cH)
        have HW0 := Aside0.mk hW0
        clear hW0
        go_loopw [12] (fun i wr => ∃ n : Nat, n ≤ l.length + 1 ∧ i = .int .i64 n ∧ Aside0 (Owns wr w1.heap.size n (behindV (l.take (n - 1)))) ∧ Aside0 (agreesL k l a1_0 a1_1 a1_2 a2_0 a2_1 l2_2 a3 (l.length + 2 - n) n = some (r1, r2)) ∧ Aside0 (Below w1.heap.size w1 wr) ∧ Aside0 (w1.heap.size + 1 ≤ wr.heap.size)) (fun i _ => l.length + 1 - (intOf i).toNat)
        case atStart => exact ⟨0, Nat.zero_le _, rfl, ⟨by rw [show (0 - 1 : Nat) = 0 from rfl, List.take_zero]; exact owns_made w1⟩, HH, ⟨(Below.refl _ _).alloc (Nat.le_refl _) _⟩, ⟨by simp⟩⟩
        case round =>
          clear HH
          obtain ⟨n, hn, rfl, HO, HA, HW, HG⟩ := hrel
          by_cases hle : n ≤ l.length
          · cases n with
            | zero =>
              obtain ⟨wd, hwd⟩ : ∃ wd, wd = wr := ⟨_, rfl⟩
              have HO2 : Aside0 (Owns wd w1.heap.size (0 + 1) (behindV (l.take 0))) := ⟨by rw [hwd]; exact HO.out.mono (by omega)⟩
              have HB2 : Aside0 (Below w1.heap.size w1 wd) := ⟨by rw [hwd]; exact HW.out⟩
              have HG2 : Aside0 (w1.heap.size + 1 ≤ wd.heap.size) := ⟨by rw [hwd]; exact HG.out⟩
              subst hwd
              go_wp2
              have hA := HA.out
              rw [show l.length + 2 - (0) = (l.length + 1 - (0)) + 1 by omega] at hA
              unfold agreesL at hA
              rw [if_neg (by omega)] at hA
              by_cases hf : a3 ≤ ((0 : Nat) : Int)
              · rw [if_pos hf] at hA
                have h9 := Option.bind_eq_some_iff.1 hA
                clear hA
                obtain ⟨⟨g0, g1, g2⟩, hg, hA⟩ := h9
                have h9 := Option.bind_eq_some_iff.1 hA
                clear hA
                obtain ⟨t, ht, hA⟩ := h9
                have HLT : (behindV (l.take (0))).length ≤ 4398046511103 := by
                  have h1 : (l.take (0)).length = 0 := by rw [List.length_take]; omega
                  have := behindV_len _ _ h1
                  omega
                have cE : ∀ W, Below wd.heap.size wd W → Calls Try.prog 42 #[.map (some w1.heap.size)] W fun e w' => ∃ v : Value, e = .returned v ∧ Kd.R k103 103 w' wd.heap.size (fun _ => True) v ((behindV (l.take (0))).map mkE) ∧ Below wd.heap.size wd w' := fun W hW => (entries_any w1.heap.size (0 + 1) (behindV (l.take (0))) W (owns_below HO2.out hW) HLT (fun p hp => by
                  obtain ⟨r, hr, rfl⟩ := behindV_mem _ _ rfl hp
                  exact (HSZ.out r (List.mem_of_mem_take hr)).1)).mono fun e w' ⟨v, he, hR, hB⟩ => ⟨v, he, R_iso (g := mkE) (fun _ => rfl) (Kd.R_lower hR hW.size), hW.trans (hB.mono hW.size)⟩
                generalize List.map mkE (behindV (l.take (0))) = ents at cE hg
                have HGV := Aside0.mk hg
                have HSM := Aside0.mk ht
                have HA2 := Aside0.mk hA
                clear hg ht hA
                have HWD : Aside0 (Below W0.heap.size W0 wd) := ⟨HB.out.trans (HB2.out.mono HB.out.size)⟩
                obtain ⟨⟨o0, o1, o2⟩, x0, x1, x2⟩ := OX.out wd HWD.out
                have hfd : decide (a3 ≤ 0) = true := decide_eq_true hf
                clear hf HLT
                cases t
                all_goals
                  go_region_held3 (fun w' => (w'.cell? ⟨w.heap.size, 0, none⟩ = some (.int .i64 a1_0) ∧ w'.cell? ⟨w.heap.size, 1, none⟩ = some (.string a1_1) ∧ w'.cell? ⟨w.heap.size, 2, none⟩ = some (.string a1_2)) ∧ (w'.cell? ⟨w.heap.size + 1, 0, none⟩ = some (.bool a2_0) ∧ w'.cell? ⟨w.heap.size + 1, 1, none⟩ = some (.string a2_1) ∧ w'.cell? ⟨w.heap.size + 1, 2, none⟩ = some (.slice A2_2 l2_2.length c2_2)))
                    (first | exact OX.out _ HWN.out | exact OX.out _ (HWD.out.trans ((below_drew (Below.refl _ _)).mono HWD.out.size)) | exact OX.out _ HWD.out)
                    (first | (go_at_call 42; refine (cE _ ?_).mono ?_; (first | exact Below.refl _ _ | exact below_drew (Below.refl _ _)); rintro e w3 ⟨v, rfl, hRv, hB3⟩; obtain ⟨Av, cv, rfl, hlv, hCv⟩ := Kd.R_reads hRv; have HWN : Aside0 (Below W0.heap.size W0 w3) := ⟨HWD.out.trans (hB3.mono HWD.out.size)⟩; have HB3 := Aside0.mk hB3; have HCV := Aside0.mk hCv; have HLV := Aside0.mk hlv; clear hRv hB3 hlv hCv cE) | (go_at_call 41; refine (fold_given.calls k _ _ _ a1_0 a1_1 a1_2 g0 g1 g2 _ HCV.out HLV.out HGV.out).mono ?_; rintro e w4 ⟨v2, rfl, hR4, hB4⟩; obtain ⟨A4, c4, rfl, hl4, hC4⟩ := Kd.R_reads hR4; have HW4 : Aside0 (Below W0.heap.size W0 w4) := ⟨HWN.out.trans (hB4.mono HWN.out.size)⟩; clear HWN; have HWN := HW4; clear HW4; have HB4 := Aside0.mk (HB3.out.trans (hB4.mono HB3.out.size)); have HC4 := Aside0.mk hC4; have HL4 := Aside0.mk hl4; clear hR4 hB4 hl4 hC4) | (go_at_call 40; refine (fold_same.calls k g0 g1 _ _ g2 a2_0 a2_1 A2_2 c2_2 l2_2 _ _ HC4.out HL4.out (XR.out _ HWN.out) HC2.out HSM.out).mono ?_; rintro e w5 ⟨rfl, hB5⟩; have HW5 : Aside0 (Below W0.heap.size W0 w5) := ⟨HWN.out.trans (hB5.mono HWN.out.size)⟩; clear HWN; have HWN := HW5; clear HW5; have HB5 := Aside0.mk (HB4.out.trans (hB5.mono HB4.out.size)); clear hB5))
                · go_wp2
                  go_roundw
                  case rel => exact ⟨0 + 1, by omega, by go_num, ⟨owns_below HO2.out HB5.out⟩, ⟨by rw [show l.length + 2 - (0 + 1) = l.length + 1 - (0) by omega]; have := HA2.out; rwa [if_neg (by decide)] at this⟩, ⟨HB2.out.trans (HB5.out.mono HB2.out.size)⟩, ⟨Nat.le_trans HG2.out HB5.out.size⟩⟩
                  case measure => first | (simp [intOf]; done) | (simp [intOf]; omega)
                · have hx : r1 = 0 ∧ r2 = true := by
                    have := HA2.out
                    rw [if_pos (by trivial)] at this
                    have := Prod.mk.inj (Option.some.inj this)
                    exact ⟨this.1.symm, this.2.symm⟩
                  obtain ⟨rfl, rfl⟩ := hx
                  go_wp2
                  go_ret2
                  exact ⟨rfl, HB00.out.trans (HWN.out.mono HB00.out.size)⟩
              · rw [if_neg hf] at hA
                have HA2 := Aside0.mk hA
                clear hA
                have hfd : decide (a3 ≤ 0) = false := decide_eq_false hf
                clear hf
                go_quiet (fail)
                go_wp2
                go_roundw
                case rel => exact ⟨0 + 1, by omega, by go_num, HO2, ⟨by rw [show l.length + 2 - (0 + 1) = l.length + 1 - (0) by omega]; exact HA2.out⟩, ⟨pw_below_drewN HB2.out _⟩, ⟨by have := HG2.out; simp; omega⟩⟩
                case measure => first | (simp [intOf]; done) | (simp [intOf]; omega)
            | succ m =>
              have hjl : m < l.length := by omega
              have HT := Aside0.mk (behindV_take hjl)
              have hq : rd_T50 l (m : Int) ∈ l := by
                rw [show rd_T50 l (m : Int) = l[m] from by unfold rd_T50; simp [hjl]]
                exact List.getElem_mem hjl
              have hz := HSZ.out _ hq
              clear hq
              obtain ⟨ad, hA, g0, g1, g2, g3, g4, g5, g6, g7⟩ := at_T50 (Kd.C_below HC.out HW.out) (m : Int) (by omega) (by omega)
              rw [Int.toNat_natCast] at g0 g1 g2 g3 g4 g5 g6 g7
              subst hA
              have HZ := Aside0.mk hz
              clear hz
              generalize rd_T50 l (m : Int) = q at HT HZ g0 g1 g2 g3 g4 g5 g6 g7
              obtain ⟨q0, q1, q2, q3, q4, q5, q6, q7⟩ := q
              simp only at g0 g1 g2 g3 g4 g5 g6 g7
              go_wp2_with fail
              refine (do_any w1.heap.size (m + 1) (behindV (l.take m)) wr q0 q1 q2 q3 q4 q5 q6 q7 HO.out (by unfold maxLen; omega) HZ.out.1 HZ.out.2).mono ?_
              rintro e wd ⟨rfl, hO2, hG2⟩
              have HO2 : Aside0 (Owns wd w1.heap.size (m + 1 + 1) (behindV (l.take (m + 1)))) := ⟨by rw [HT.out]; exact hO2⟩
              have HB2 := Aside0.mk (HW.out.grown hG2 (by have := HW.out.size; omega) (fun k_ hk_ => by cases hk_; exact Nat.le_refl _))
              have HG2 := Aside0.mk (Nat.le_trans HG.out hG2.size)
              clear hO2 hG2 g0 g1 g2 g3 g4 g5 g6 g7
              go_wp2
              have hA := HA.out
              rw [show l.length + 2 - (m + 1) = (l.length + 1 - (m + 1)) + 1 by omega] at hA
              unfold agreesL at hA
              rw [if_neg (by omega)] at hA
              by_cases hf : a3 ≤ ((m + 1 : Nat) : Int)
              · rw [if_pos hf] at hA
                have h9 := Option.bind_eq_some_iff.1 hA
                clear hA
                obtain ⟨⟨g0, g1, g2⟩, hg, hA⟩ := h9
                have h9 := Option.bind_eq_some_iff.1 hA
                clear hA
                obtain ⟨t, ht, hA⟩ := h9
                have HLT : (behindV (l.take (m + 1))).length ≤ 4398046511103 := by
                  have h1 : (l.take (m + 1)).length = m + 1 := by rw [List.length_take]; omega
                  have := behindV_len _ _ h1
                  omega
                have cE : ∀ W, Below wd.heap.size wd W → Calls Try.prog 42 #[.map (some w1.heap.size)] W fun e w' => ∃ v : Value, e = .returned v ∧ Kd.R k103 103 w' wd.heap.size (fun _ => True) v ((behindV (l.take (m + 1))).map mkE) ∧ Below wd.heap.size wd w' := fun W hW => (entries_any w1.heap.size (m + 1 + 1) (behindV (l.take (m + 1))) W (owns_below HO2.out hW) HLT (fun p hp => by
                  obtain ⟨r, hr, rfl⟩ := behindV_mem _ _ rfl hp
                  exact (HSZ.out r (List.mem_of_mem_take hr)).1)).mono fun e w' ⟨v, he, hR, hB⟩ => ⟨v, he, R_iso (g := mkE) (fun _ => rfl) (Kd.R_lower hR hW.size), hW.trans (hB.mono hW.size)⟩
                generalize List.map mkE (behindV (l.take (m + 1))) = ents at cE hg
                have HGV := Aside0.mk hg
                have HSM := Aside0.mk ht
                have HA2 := Aside0.mk hA
                clear hg ht hA
                have HWD : Aside0 (Below W0.heap.size W0 wd) := ⟨HB.out.trans (HB2.out.mono HB.out.size)⟩
                obtain ⟨⟨o0, o1, o2⟩, x0, x1, x2⟩ := OX.out wd HWD.out
                have hfd : decide (a3 ≤ ((m : Int) + 1)) = true := decide_eq_true hf
                clear hf HLT
                cases t
                all_goals
                  go_region_held3 (fun w' => (w'.cell? ⟨w.heap.size, 0, none⟩ = some (.int .i64 a1_0) ∧ w'.cell? ⟨w.heap.size, 1, none⟩ = some (.string a1_1) ∧ w'.cell? ⟨w.heap.size, 2, none⟩ = some (.string a1_2)) ∧ (w'.cell? ⟨w.heap.size + 1, 0, none⟩ = some (.bool a2_0) ∧ w'.cell? ⟨w.heap.size + 1, 1, none⟩ = some (.string a2_1) ∧ w'.cell? ⟨w.heap.size + 1, 2, none⟩ = some (.slice A2_2 l2_2.length c2_2)))
                    (first | exact OX.out _ HWN.out | exact OX.out _ (HWD.out.trans ((below_drew (Below.refl _ _)).mono HWD.out.size)) | exact OX.out _ HWD.out)
                    (first | (go_at_call 42; refine (cE _ ?_).mono ?_; (first | exact Below.refl _ _ | exact below_drew (Below.refl _ _)); rintro e w3 ⟨v, rfl, hRv, hB3⟩; obtain ⟨Av, cv, rfl, hlv, hCv⟩ := Kd.R_reads hRv; have HWN : Aside0 (Below W0.heap.size W0 w3) := ⟨HWD.out.trans (hB3.mono HWD.out.size)⟩; have HB3 := Aside0.mk hB3; have HCV := Aside0.mk hCv; have HLV := Aside0.mk hlv; clear hRv hB3 hlv hCv cE) | (go_at_call 41; refine (fold_given.calls k _ _ _ a1_0 a1_1 a1_2 g0 g1 g2 _ HCV.out HLV.out HGV.out).mono ?_; rintro e w4 ⟨v2, rfl, hR4, hB4⟩; obtain ⟨A4, c4, rfl, hl4, hC4⟩ := Kd.R_reads hR4; have HW4 : Aside0 (Below W0.heap.size W0 w4) := ⟨HWN.out.trans (hB4.mono HWN.out.size)⟩; clear HWN; have HWN := HW4; clear HW4; have HB4 := Aside0.mk (HB3.out.trans (hB4.mono HB3.out.size)); have HC4 := Aside0.mk hC4; have HL4 := Aside0.mk hl4; clear hR4 hB4 hl4 hC4) | (go_at_call 40; refine (fold_same.calls k g0 g1 _ _ g2 a2_0 a2_1 A2_2 c2_2 l2_2 _ _ HC4.out HL4.out (XR.out _ HWN.out) HC2.out HSM.out).mono ?_; rintro e w5 ⟨rfl, hB5⟩; have HW5 : Aside0 (Below W0.heap.size W0 w5) := ⟨HWN.out.trans (hB5.mono HWN.out.size)⟩; clear HWN; have HWN := HW5; clear HW5; have HB5 := Aside0.mk (HB4.out.trans (hB5.mono HB4.out.size)); clear hB5))
                · go_wp2
                  go_roundw
                  case rel => exact ⟨m + 1 + 1, by omega, by go_num, ⟨owns_below HO2.out HB5.out⟩, ⟨by rw [show l.length + 2 - (m + 1 + 1) = l.length + 1 - (m + 1) by omega]; have := HA2.out; rwa [if_neg (by decide)] at this⟩, ⟨HB2.out.trans (HB5.out.mono HB2.out.size)⟩, ⟨Nat.le_trans HG2.out HB5.out.size⟩⟩
                  case measure => first | (simp [intOf]; done) | (simp [intOf]; omega)
                · have hx : r1 = ((m : Int) + 1) ∧ r2 = true := by
                    have := HA2.out
                    rw [if_pos (by trivial)] at this
                    have := Prod.mk.inj (Option.some.inj this)
                    exact ⟨this.1.symm, this.2.symm⟩
                  obtain ⟨rfl, rfl⟩ := hx
                  go_wp2
                  go_ret2
                  exact ⟨rfl, HB00.out.trans (HWN.out.mono HB00.out.size)⟩
              · rw [if_neg hf] at hA
                have HA2 := Aside0.mk hA
                clear hA
                have hfd : decide (a3 ≤ ((m : Int) + 1)) = false := decide_eq_false hf
                clear hf
                go_quiet (fail)
                go_wp2
                go_roundw
                case rel => exact ⟨m + 1 + 1, by omega, by go_num, HO2, ⟨by rw [show l.length + 2 - (m + 1 + 1) = l.length + 1 - (m + 1) by omega]; exact HA2.out⟩, ⟨pw_below_drewN HB2.out _⟩, ⟨by have := HG2.out; simp; omega⟩⟩
                case measure => first | (simp [intOf]; done) | (simp [intOf]; omega)
          · obtain rfl : n = l.length + 1 := by omega
            have hx : r1 = 0 ∧ r2 = false := by
              have := HA.out
              rw [show l.length + 2 - (l.length + 1) = 0 + 1 by omega] at this
              unfold agreesL at this
              rw [if_pos (by omega)] at this
              have := Prod.mk.inj (Option.some.inj this)
              exact ⟨this.1.symm, this.2.symm⟩
            obtain ⟨rfl, rfl⟩ := hx
            go_wp2
            go_ret2
            exact ⟨rfl, HB00.out.trans ((HB.out.trans (HW.out.mono HB.out.size)).mono HB00.out.size)⟩
      · rw [if_neg hs] at h
        cases h


end Go.Proofs.Ytegfnceepplooaa.PTR
