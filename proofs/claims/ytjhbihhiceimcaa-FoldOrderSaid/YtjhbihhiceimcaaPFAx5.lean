-- Printed by wip/tools/myprint.py (over the kit's print.py), with hand-written contracts; Lean checks all of it.
import Derived.Test.YtjhbihhiceimcaaPFAx0
import Derived.Test.YtjhbihhiceimcaaPFAx3
namespace Go.Proofs.Ytjhbihhiceimcaa.PFA
open Go.RowKit Go.Proofs.YtjhbihhiceimcaaW.PrintWords Go.Proofs.YtjhbihhiceimcaaW.PrintLast Go.Proofs.YtjhbihhiceimcaaW.PrintMore
attribute [local go_sem] max2_int min2_int max_two min_two max_three min_three max_four min_four   -- for this text's walks alone
set_option linter.unusedVariables false
set_option linter.unusedSimpArgs false

/-! ### fold_Behind: function 13 -/
open Go.Proofs.Ytjhbihhiceimcaa.FMap
/-- The map behind some writes, its entries in the keys' order. -/
def behindV (l : List S43) : List KV := l.foldl (fun m r => doV m r.f4 r.f6 r.f7) []
def mkE (p : KV) : S50 := ⟨p.1, p.2⟩
def smallR (l : List S43) : Bool := l.all (fun r => decide (r.f6.size ≤ maxLen) && decide (r.f7.size ≤ maxLen)) && decide (l.length ≤ 1099511627776)
theorem smallR_at {l : List S43} (h : smallR l = true) : l.length ≤ 1099511627776 ∧ ∀ r ∈ l, r.f6.size ≤ maxLen ∧ r.f7.size ≤ maxLen := by
  unfold smallR at h
  rw [Bool.and_eq_true, decide_eq_true_eq, List.all_eq_true] at h
  exact ⟨h.2, fun r hr => by simpa using h.1 r hr⟩
theorem behindV_snoc (l : List S43) (r : S43) : behindV (l ++ [r]) = doV (behindV l) r.f4 r.f6 r.f7 := by simp [behindV, List.foldl_append]
theorem behindV_take {l : List S43} {j : Nat} (h : j < l.length) : behindV (l.take (j + 1)) = doV (behindV (l.take j)) (rd_T43 l (j : Int)).f4 (rd_T43 l (j : Int)).f6 (rd_T43 l (j : Int)).f7 := by
  rw [List.take_succ_eq_append_getElem h, behindV_snoc]
  have : rd_T43 l (j : Int) = l[j] := by unfold rd_T43; simp [h]
  rw [this]
theorem behindV_len : ∀ (n : Nat) (l : List S43), l.length = n → (behindV l).length ≤ n
  | 0, l, h => by
    have : l = [] := List.eq_nil_of_length_eq_zero h
    subst this; exact Nat.le_refl _
  | n + 1, l, h => by
    obtain ⟨t, x, rfl⟩ : ∃ t x, l = t ++ [x] := ⟨l.dropLast, l.getLast (by intro e; simp [e] at h), (List.dropLast_concat_getLast _).symm⟩
    rw [behindV_snoc]
    have := behindV_len n t (by simpa using h)
    have := do_length (behindV t) x.f4 x.f6 x.f7
    omega
theorem behindV_mem {p : KV} : ∀ (n : Nat) (l : List S43), l.length = n → p ∈ behindV l → ∃ r ∈ l, p = (r.f6, r.f7)
  | 0, l, h, hp => by
    have : l = [] := List.eq_nil_of_length_eq_zero h
    subst this; cases hp
  | n + 1, l, h, hp => by
    obtain ⟨t, x, rfl⟩ : ∃ t x, l = t ++ [x] := ⟨l.dropLast, l.getLast (by intro e; simp [e] at h), (List.dropLast_concat_getLast _).symm⟩
    rw [behindV_snoc] at hp
    rcases do_mem hp with hp | hp
    · exact ⟨x, by simp, hp⟩
    · obtain ⟨r, hr, e⟩ := behindV_mem n t (by simpa using h) hp
      exact ⟨r, by simp [hr], e⟩
def fold_Behind.f (l0 : List S43) (a1 : Int) : Option (List S50 × Int) := (fold_History.f l0).bind fun l => if smallR l = true then (if a1 < 0 then some ([], 1) else if a1 > (l.length : Int) then some ([], 1) else some ((behindV (l.take a1.toNat)).map mkE, 0)) else none
set_option maxHeartbeats 8000000 in
set_option maxRecDepth 100000 in
theorem fold_Behind.calls (A0 : Option Addr) (c0 : Nat) (l0 : List (S43)) (a1 : Int) (r1 : List (S50)) (r2 : Int) (w : World) (hr0 : Kd.C k43 w A0 l0.length l0) (hc0 : l0.length ≤ c0) (h : fold_Behind.f l0 a1 = some (r1, r2)) :
    Calls Try.prog 13 #[.slice A0 l0.length c0, .int .i64 a1] w fun e w' => ∃ v0_ : Value, e = .returned (.tuple #[v0_, .int .i64 r2]) ∧ Kd.R k50 50 w' w.heap.size (fun _ => True) v0_ r1 ∧ Below w.heap.size w w' := by
  unfold fold_Behind.f at h
  have h9 := Option.bind_eq_some_iff.1 h
  clear h
  obtain ⟨l, hH, h⟩ := h9
  by_cases hs : smallR l = true
  · rw [if_pos hs] at h
    obtain ⟨hlen, hsz⟩ := smallR_at hs
    have cH := fold_History.calls A0 c0 l0 l w hr0 hc0 hH
    have HLEN := Aside0.mk hlen
    have HSZ := Aside0.mk hsz
    clear hs hH hr0 hc0 hlen hsz
    by_cases h1 : a1 < 0
    · rw [if_pos h1] at h
      obtain ⟨rfl, rfl⟩ := Prod.mk.inj (Option.some.inj h)
      clear h
      go_enter Try.func13, Try.ntmps13
      go_wp2_with (go_at_call 9; refine cH.mono ?_; rintro e w1 ⟨v, rfl, hR, hB⟩)
      go_ret2
      exact ⟨_, rfl, Kd.R_nil _ _ _ _ _, hB⟩
    · rw [if_neg h1] at h
      obtain ⟨n, rfl⟩ : ∃ n : Nat, a1 = (n : Int) := ⟨a1.toNat, by omega⟩
      by_cases h2 : l.length < n
      · rw [if_pos (by omega)] at h
        obtain ⟨rfl, rfl⟩ := Prod.mk.inj (Option.some.inj h)
        clear h h1
        go_enter Try.func13, Try.ntmps13
        go_wp2_with (go_at_call 9; refine cH.mono ?_; rintro e w1 ⟨v, rfl, hR, hB⟩; obtain ⟨A, c, rfl, hlc, hC⟩ := Kd.R_reads hR; clear hR hC)
        go_ret2
        exact ⟨_, rfl, Kd.R_nil _ _ _ _ _, hB⟩
      · rw [if_neg (by omega)] at h
        obtain ⟨rfl, rfl⟩ := Prod.mk.inj (Option.some.inj h)
        rw [Int.toNat_natCast]
        have hn : n ≤ l.length := by omega
        have hn9 := HLEN.out
        have hd1 : decide ((n : Int) < 0) = false := decide_eq_false (by omega)
        have hd2 : decide (l.length < n) = false := decide_eq_false (by omega)
        have hmm := @run_makeMap Try.prog
        clear h h1 h2
        go_enter Try.func13, Try.ntmps13
        go_wp2_with (go_at_call 9; refine cH.mono ?_; rintro e w1 ⟨v, rfl, hR, hB⟩; obtain ⟨A, c, rfl, hlc, hC⟩ := Kd.R_reads hR; have HC := Aside0.mk hC; have HB := Aside0.mk hB; clear hR hC hB)
        go_loopw [25] (fun i wr => ∃ j : Nat, j ≤ n ∧ i = .int .i64 j ∧ Aside0 (Owns wr w1.heap.size j (behindV (l.take j))) ∧ Aside0 (Below w1.heap.size w1 wr) ∧ Aside0 (w1.heap.size + 1 ≤ wr.heap.size)) (fun i _ => n - (intOf i).toNat)
        case atStart => exact ⟨0, Nat.zero_le _, rfl, ⟨by rw [List.take_zero]; exact owns_made w1⟩, ⟨(Below.refl _ _).alloc (Nat.le_refl _) _⟩, ⟨by simp⟩⟩
        case round =>
          obtain ⟨j, hj, rfl, HO, HW, HG⟩ := hrel
          by_cases hlt : j < n
          · have hjl : j < l.length := by omega
            have HT := Aside0.mk (behindV_take hjl)
            have hq : rd_T43 l (j : Int) ∈ l := by
              rw [show rd_T43 l (j : Int) = l[j] from by unfold rd_T43; simp [hjl]]
              exact List.getElem_mem hjl
            have hz := HSZ.out _ hq
            clear hq
            obtain ⟨ad, hA, g0, g1, g2, g3, g4, g5, g6, g7⟩ := at_T43 (Kd.C_below HC.out HW.out) (j : Int) (by omega) (by omega)
            rw [Int.toNat_natCast] at g0 g1 g2 g3 g4 g5 g6 g7
            subst hA
            have HZ := Aside0.mk hz
            clear hz
            generalize rd_T43 l (j : Int) = q at HT HZ g0 g1 g2 g3 g4 g5 g6 g7
            obtain ⟨q0, q1, q2, q3, q4, q5, q6, q7⟩ := q
            simp only at g0 g1 g2 g3 g4 g5 g6 g7
            go_wp2_with fail
            refine (do_any w1.heap.size j (behindV (l.take j)) (wr.alloc (.cells #[.int .i64 q0, .int .i64 q1, .int .i64 q2, .int .i64 q3, .int .i64 q4, .int .i64 q5, .string q6, .string q7] 43)) q0 q1 q2 q3 q4 q5 q6 q7 (HO.out.alloc _) (by unfold maxLen; omega) HZ.out.1 HZ.out.2).mono ?_
            rintro e w2 ⟨rfl, hO2, hG2⟩
            have HO2 := Aside0.mk hO2
            have HB2 := Aside0.mk ((HW.out.alloc HW.out.size _).grown hG2 (by have := HW.out.size; simp; omega) (fun k_ hk_ => by cases hk_; exact Nat.le_refl _))
            have HG2 := Aside0.mk (Nat.le_trans HG.out (Nat.le_trans (by simp) hG2.size))
            clear hO2 hG2 g0 g1 g2 g3 g4 g5 g6 g7
            go_wp2
            go_roundw
            case rel => exact ⟨j + 1, by omega, by go_num, ⟨by rw [HT.out]; exact HO2.out⟩, HB2, HG2⟩
            case measure => simp [intOf]; omega
          · obtain rfl : j = n := by omega
            have cE := entries_any w1.heap.size j (behindV (l.take j)) wr HO.out (by have := behindV_len _ _ (show (l.take j).length = j by simp; omega); omega) (fun p hp => by
              obtain ⟨r, hr, rfl⟩ := behindV_mem _ _ rfl hp
              exact (HSZ.out r (List.mem_of_mem_take hr)).1)
            go_wp2_with fail
            refine cE.mono ?_
            rintro e w2 ⟨v, rfl, hR, hB2⟩
            go_wp2
            go_ret2
            exact ⟨_, rfl, R_iso (g := mkE) (fun _ => rfl) (Kd.R_lower hR (Nat.le_trans HB.out.size HW.out.size)), HB.out.trans ((HW.out.trans (hB2.mono HW.out.size)).mono HB.out.size)⟩
  · rw [if_neg hs] at h
    cases h


/-! ### latticelaw18_little: function 14 -/
theorem R_fresh {α : Type} (d : Kd α) (e : Nat) (W : World) (xs : List α) (inner : List Value) (hrep : ∀ ok, Reps (d.M (W.alloc (.cells inner.toArray e)) W.heap.size ok) d.sz xs inner) (hm : xs.length ≤ maxLen) : d.R e (W.alloc (.cells inner.toArray e)) W.heap.size (fun _ => True) (.slice (some ⟨W.heap.size, 0, none⟩) xs.length xs.length) xs :=
  ⟨fun _ _ => trivial, inner, by
    have h2 := World.ownsRow_lit (base := W.heap.size) (e := e) (size := d.sz) W inner.toArray xs.length (Nat.le_refl _) hm (by simpa using (hrep (fun _ => True)).1)
    simpa using h2, hrep _⟩
def littleR : List S43 := [⟨1, 0, 7, 0, 1, 1, ⟨#[97]⟩, ⟨#[120]⟩⟩, ⟨2, 0, 7, 0, 1, 2, ⟨#[98]⟩, ⟨#[121]⟩⟩, ⟨3, 0, 7, 0, 1, 3, ⟨#[97]⟩, ⟨#[122]⟩⟩, ⟨4, 0, 7, 0, 2, 4, ⟨#[98]⟩, ⟨#[]⟩⟩]
def littleV : List Value := [.int .i64 1, .int .i64 0, .int .i64 7, .int .i64 0, .int .i64 1, .int .i64 1, .string ⟨#[97]⟩, .string ⟨#[120]⟩, .int .i64 2, .int .i64 0, .int .i64 7, .int .i64 0, .int .i64 1, .int .i64 2, .string ⟨#[98]⟩, .string ⟨#[121]⟩, .int .i64 3, .int .i64 0, .int .i64 7, .int .i64 0, .int .i64 1, .int .i64 3, .string ⟨#[97]⟩, .string ⟨#[122]⟩, .int .i64 4, .int .i64 0, .int .i64 7, .int .i64 0, .int .i64 2, .int .i64 4, .string ⟨#[98]⟩, .string ⟨#[]⟩]
theorem little_R (W : World) : Kd.R k43 43 (W.alloc (.cells littleV.toArray 43)) W.heap.size (fun _ => True) (.slice (some ⟨W.heap.size, 0, none⟩) 4 4) littleR :=
  R_fresh k43 43 W littleR littleV (fun ok => Reps.c8 (k43_mkM _ _ _ _) (Reps.c8 (k43_mkM _ _ _ _) (Reps.c8 (k43_mkM _ _ _ _) (Reps.c8 (k43_mkM _ _ _ _) (Reps.none _ _))))) (by show 4 ≤ maxLen; unfold maxLen; omega)
def latticelaw18_little.f : Option (List S43) := some littleR
set_option maxHeartbeats 8000000 in
set_option maxRecDepth 100000 in
theorem latticelaw18_little.calls  (r : List (S43)) (w : World) (h : latticelaw18_little.f  = some r) :
    Calls Try.prog 14 #[] w fun e w' => ∃ v0_ : Value, e = .returned (v0_) ∧ Kd.R k43 43 w' w.heap.size (fun _ => True) v0_ r ∧ Below w.heap.size w w' := by
  unfold latticelaw18_little.f at h
  obtain rfl := Option.some.inj h
  clear h
  have hb : ∀ W : World, (Instr.buildSlice 22 4 #[(0, .agg #[.int .i64 1, .int .i64 0, .int .i64 7, .int .i64 0, .int .i64 1, .int .i64 1, .string ⟨#[97]⟩, .string ⟨#[120]⟩]), (1, .agg #[.int .i64 2, .int .i64 0, .int .i64 7, .int .i64 0, .int .i64 1, .int .i64 2, .string ⟨#[98]⟩, .string ⟨#[121]⟩]), (2, .agg #[.int .i64 3, .int .i64 0, .int .i64 7, .int .i64 0, .int .i64 1, .int .i64 3, .string ⟨#[97]⟩, .string ⟨#[122]⟩]), (3, .agg #[.int .i64 4, .int .i64 0, .int .i64 7, .int .i64 0, .int .i64 2, .int .i64 4, .string ⟨#[98]⟩, .string ⟨#[]⟩])]).run Try.prog W = .ok (.slice (some ⟨W.heap.size, 0, none⟩) 4 4) (W.alloc (.cells littleV.toArray 43)) := fun W => by as_aux_lemma => kernel_rfl
  go_enter Try.func14, Try.ntmps14
  go_wp2
  go_ret
  exact ⟨_, rfl, little_R w, (Below.refl _ _).alloc (Nat.le_refl _) _⟩


end Go.Proofs.Ytjhbihhiceimcaa.PFA
